/- A path that lies in the memory. -/
import Derived.Test.YtbaegfjoionojaaDoorQyM
set_option linter.unusedSimpArgs false
set_option linter.unusedVariables false
namespace Go.Proofs.YtbaegfjoionojaaDoor.Qy
open Go Go.RowKit Go.Proofs.YtbaegfjoionojaaDoor.Tm Go.Proofs.YtbaegfjoionojaaDoorW.PrintWords

/-- Texts that lie in a row. -/
def TsAt (w : World) (ok : Nat → Prop) (A : Option Addr) (ts : List ByteArray) : Prop :=
  ts.length ≤ 9223372036854775807 ∧ (0 < ts.length → ∃ b o, A = some ⟨b, o, none⟩ ∧ ok b ∧ ∀ (j : Nat) t, ts[j]? = some t → w.cell? ⟨b, o + j, none⟩ = some (.string t))
mutual
/-- A path's cells; its rows are in blocks that are ok. -/
def PathAt (w : World) (ok : Nat → Prop) : Pth → List Value → Prop
  | .mk k t ts ks, cs => ∃ (A : Option Addr) (c : Nat) (B : Option Addr) (c' : Nat), cs = [.int .i64 k, .string t, .slice A ts.length c, .slice B ks.length c'] ∧ ts.length ≤ c ∧ ks.length ≤ c' ∧ ks.length ≤ 9223372036854775807 ∧ TsAt w ok A ts ∧ KidsAt w ok B 0 ks
def KidsAt (w : World) (ok : Nat → Prop) (B : Option Addr) : Nat → List Pth → Prop
  | _, [] => True
  | i, p :: l => (∃ b o cs, B = some ⟨b, o, none⟩ ∧ ok b ∧ (∀ (j : Nat) u, cs[j]? = some u → w.cell? ⟨b, o + i * 4 + j, none⟩ = some u) ∧ PathAt w ok p cs) ∧ KidsAt w ok B (i + 1) l
end
theorem cell_move {w w1 : World} {ok : Nat → Prop} (hm : ∀ k, ok k → k < w.heap.size → w1.heap[k]? = w.heap[k]?) {b n : Nat} {u : Value} (ho : ok b) (h : w.cell? ⟨b, n, none⟩ = some u) : w1.cell? ⟨b, n, none⟩ = some u :=
  (World.cell?_of_block (hm _ ho (World.block_lt_of_cell? w _ h))).trans h
theorem TsAt.move {w w1 : World} {ok : Nat → Prop} (hm : ∀ k, ok k → k < w.heap.size → w1.heap[k]? = w.heap[k]?) {A : Option Addr} {ts : List ByteArray} (h : TsAt w ok A ts) : TsAt w1 ok A ts :=
  ⟨h.1, fun h0 => by
    obtain ⟨b, o, e, ho, hc⟩ := h.2 h0
    exact ⟨b, o, e, ho, fun j t ht => cell_move hm ho (hc j t ht)⟩⟩
theorem TsAt.mono {w : World} {ok ok' : Nat → Prop} (hm : ∀ k, ok k → k < w.heap.size → ok' k) {A : Option Addr} {ts : List ByteArray} (h : TsAt w ok A ts) : TsAt w ok' A ts :=
  ⟨h.1, fun h0 => by
    obtain ⟨b, o, e, ho, hc⟩ := h.2 h0
    exact ⟨b, o, e, hm _ ho (World.block_lt_of_cell? w _ (hc 0 _ (List.getElem?_eq_getElem h0))), hc⟩⟩
mutual
theorem PathAt.move {w w1 : World} {ok : Nat → Prop} (hm : ∀ k, ok k → k < w.heap.size → w1.heap[k]? = w.heap[k]?) : ∀ (p : Pth) {cs : List Value}, PathAt w ok p cs → PathAt w1 ok p cs
  | .mk k t ts ks, cs, h => by
    unfold PathAt at h ⊢
    obtain ⟨A, c, B, c', h1, h2, h3, h4, h5, h6⟩ := h
    exact ⟨A, c, B, c', h1, h2, h3, h4, h5.move hm, KidsAt.move hm ks h6⟩
theorem KidsAt.move {w w1 : World} {ok : Nat → Prop} (hm : ∀ k, ok k → k < w.heap.size → w1.heap[k]? = w.heap[k]?) : ∀ (l : List Pth) {B : Option Addr} {i : Nat}, KidsAt w ok B i l → KidsAt w1 ok B i l
  | [], B, i, h => by unfold KidsAt; trivial
  | p :: l, B, i, h => by
    unfold KidsAt at h ⊢
    obtain ⟨⟨b, o, cs, h1, ho, h2, h3⟩, h4⟩ := h
    exact ⟨⟨b, o, cs, h1, ho, fun j u hu => cell_move hm ho (h2 j u hu), PathAt.move hm p h3⟩, KidsAt.move hm l h4⟩
end
mutual
theorem PathAt.mono {w : World} {ok ok' : Nat → Prop} (hm : ∀ k, ok k → k < w.heap.size → ok' k) : ∀ (p : Pth) {cs : List Value}, PathAt w ok p cs → PathAt w ok' p cs
  | .mk k t ts ks, cs, h => by
    unfold PathAt at h ⊢
    obtain ⟨A, c, B, c', h1, h2, h3, h4, h5, h6⟩ := h
    exact ⟨A, c, B, c', h1, h2, h3, h4, h5.mono hm, KidsAt.mono hm ks h6⟩
theorem KidsAt.mono {w : World} {ok ok' : Nat → Prop} (hm : ∀ k, ok k → k < w.heap.size → ok' k) : ∀ (l : List Pth) {B : Option Addr} {i : Nat}, KidsAt w ok B i l → KidsAt w ok' B i l
  | [], B, i, h => by unfold KidsAt; trivial
  | p :: l, B, i, h => by
    unfold KidsAt at h ⊢
    obtain ⟨⟨b, o, cs, h1, ho, h2, h3⟩, h4⟩ := h
    refine ⟨⟨b, o, cs, h1, hm _ ho ?_, h2, PathAt.mono hm p h3⟩, KidsAt.mono hm l h4⟩
    obtain ⟨k, t, ts, ks⟩ := p
    unfold PathAt at h3
    obtain ⟨A, c, B, c', e, _⟩ := h3
    exact World.block_lt_of_cell? w _ (h2 0 (.int .i64 k) (by rw [e]; rfl))
end
theorem PathAt.below {w w1 : World} {ok : Nat → Prop} {p : Pth} {cs : List Value} (h : PathAt w ok p cs) (hb : Below w.heap.size w w1) : PathAt w1 ok p cs := PathAt.move (fun k _ hk => hb.block k hk) p h
theorem PathAt.len {w : World} {ok : Nat → Prop} {p : Pth} {cs : List Value} (h : PathAt w ok p cs) : cs.length = 4 := by
  obtain ⟨k, t, ts, ks⟩ := p
  unfold PathAt at h
  obtain ⟨A, c, B, c', e, _⟩ := h
  rw [e]; rfl
/-- A kid, by its place. -/
theorem KidsAt.get {w : World} {ok : Nat → Prop} : ∀ (l : List Pth) {B : Option Addr} {n : Nat}, KidsAt w ok B n l → ∀ (i : Nat) q, l[i]? = some q → ∃ b o cs, B = some ⟨b, o, none⟩ ∧ ok b ∧ (∀ (j : Nat) u, cs[j]? = some u → w.cell? ⟨b, o + (n + i) * 4 + j, none⟩ = some u) ∧ PathAt w ok q cs
  | [], B, n, h, i, q, hq => by cases hq
  | p :: l, B, n, h, 0, q, hq => by
    unfold KidsAt at h
    obtain rfl : p = q := Option.some.inj hq
    exact h.1
  | p :: l, B, n, h, i + 1, q, hq => by
    unfold KidsAt at h
    obtain ⟨b, o, cs, h1, h2, h3, h4⟩ := KidsAt.get l h.2 i q hq
    refine ⟨b, o, cs, h1, h2, fun j u hu => ?_, h4⟩
    have := h3 j u hu
    rwa [show n + 1 + i = n + (i + 1) by omega] at this
theorem KidsAt.of {w : World} {ok : Nat → Prop} : ∀ (l : List Pth) {B : Option Addr} {n : Nat}, (∀ (i : Nat) q, l[i]? = some q → ∃ b o cs, B = some ⟨b, o, none⟩ ∧ ok b ∧ (∀ (j : Nat) u, cs[j]? = some u → w.cell? ⟨b, o + (n + i) * 4 + j, none⟩ = some u) ∧ PathAt w ok q cs) → KidsAt w ok B n l
  | [], B, n, h => by unfold KidsAt; trivial
  | p :: l, B, n, h => by
    unfold KidsAt
    refine ⟨h 0 p rfl, KidsAt.of l fun i q hq => ?_⟩
    obtain ⟨b, o, cs, h1, h2, h3, h4⟩ := h (i + 1) q hq
    refine ⟨b, o, cs, h1, h2, fun j u hu => ?_, h4⟩
    have := h3 j u hu
    rwa [show n + 1 + i = n + (i + 1) by omega]
end Go.Proofs.YtbaegfjoionojaaDoor.Qy
