/- What the reading functions leave; helpers. -/
import Derived.Test.YtbaegfjoionojaaDoorQyB
import Derived.Test.YtbaegfjoionojaaDoorQyQ
set_option linter.unusedSimpArgs false
set_option linter.unusedVariables false
namespace Go.Proofs.YtbaegfjoionojaaDoor.Qy
open Go Go.RowKit Go.Proofs.YtbaegfjoionojaaDoor.Tm Go.Proofs.YtbaegfjoionojaaDoorW.PrintWords

/-- What a reading function leaves: a path from its own memory, or an error. -/
def PostP (b : Nat) (s : ByteArray) (w : World) (r : Res Pth) (e : Ending) (w' : World) : Prop :=
  ∃ (k : Int) (t : ByteArray) (A : Option Addr) (n c : Nat) (B : Option Addr) (m c' : Nat), e = .returned (.agg #[.int .i64 k, .string t, .slice A n c, .slice B m c']) ∧ Kb b w w' ∧
    (∀ p j, r = .ok p j → Rq w' b s j 0 0 ∧ PathAt w' (fun g => w.heap.size ≤ g) p [.int .i64 k, .string t, .slice A n c, .slice B m c']) ∧ (∀ er a, r = .no er a → er ≠ 0 ∧ ∃ i, Rq w' b s i er a)
theorem PostP.no {b : Nat} {s : ByteArray} {w w' : World} {i a : Nat} {er : Int} {k : Int} {t : ByteArray} {A : Option Addr} {n c : Nat} {B : Option Addr} {m c' : Nat} (hk : Kb b w w') (he : er ≠ 0) (hr : Rq w' b s i er a) :
    PostP b s w (.no er a) (.returned (.agg #[.int .i64 k, .string t, .slice A n c, .slice B m c'])) w' :=
  ⟨k, t, A, n, c, B, m, c', rfl, hk, (fun p j h => by cases h), (fun er' a' h => by
    simp only [Res.no.injEq] at h
    obtain ⟨rfl, rfl⟩ := h
    exact ⟨he, _, hr⟩)⟩
theorem PostP.ok {b : Nat} {s : ByteArray} {w w' : World} {j : Nat} {p : Pth} {k : Int} {t : ByteArray} {A : Option Addr} {n c : Nat} {B : Option Addr} {m c' : Nat} (hk : Kb b w w') (hr : Rq w' b s j 0 0) (hp : PathAt w' (fun g => w.heap.size ≤ g) p [.int .i64 k, .string t, .slice A n c, .slice B m c']) :
    PostP b s w (.ok p j) (.returned (.agg #[.int .i64 k, .string t, .slice A n c, .slice B m c'])) w' :=
  ⟨k, t, A, n, c, B, m, c', rfl, hk, (fun p' j' h => by
    simp only [Res.ok.injEq] at h
    obtain ⟨rfl, rfl⟩ := h
    exact ⟨hr, hp⟩), (fun er' a' h => by cases h)⟩
theorem PathAt.far {w : World} {ok : Nat → Prop} {p : Pth} {cs : List Value} (h : PathAt w ok p cs) {q : Addr} (hq : ∀ k, ok k → k ≠ q.block) (v : Value) : PathAt (w.setCell q v) ok p cs :=
  PathAt.move (fun k hk _ => Below.heap_setCell w q v k (hq k hk)) p h
theorem PathAt.drewN {w : World} {ok : Nat → Prop} {p : Pth} {cs : List Value} (h : PathAt w ok p cs) (n : Nat) : PathAt (w.drewN n) ok p cs := PathAt.move (w := w) (w1 := w.drewN n) (fun k _ hk => (pw_below_drewN (Below.refl _ _) n).block k hk) p h
/-- The result's block, written. -/
theorem fin4 {w wb : World} {b A : Nat} {s : ByteArray} {i : Nat} {er : Int} {o : Nat} {ty : TypeId} {u0 u1 u2 u3 : Value} (hR : Rq wb b s i er o) (hK : Kb b w wb) (hb : b < w.heap.size) (hA : w.heap.size ≤ A) (hN : wb.heap[A]? = some (.cells #[u0, u1, u2, u3] ty (0, 0))) (v0 v1 v2 v3 : Value) :
    ∃ wf, wf = (((wb.setCell ⟨A, 0, none⟩ v0).setCell ⟨A, 1, none⟩ v1).setCell ⟨A, 2, none⟩ v2).setCell ⟨A, 3, none⟩ v3 ∧ Aside0 (Rq wf b s i er o) ∧ Aside0 (Kb b w wf) ∧ Aside0 (wf.heap[A]? = some (.cells #[v0, v1, v2, v3] ty (0, 0))) ∧
      Aside0 (∀ (ok : Nat → Prop) (p : Pth) (cs : List Value), (∀ k, ok k → k ≠ A) → PathAt wb ok p cs → PathAt wf ok p cs) ∧ Aside0 (∀ (g : Nat) (o : Obj), g ≠ A → wb.heap[g]? = some o → wf.heap[g]? = some o) ∧ Aside0 (wf.heap.size = wb.heap.size) :=
  ⟨_, rfl, ⟨(((hR.far (p := ⟨A, 0, none⟩) (by show b ≠ A; omega) v0).far (p := ⟨A, 1, none⟩) (by show b ≠ A; omega) v1).far (p := ⟨A, 2, none⟩) (by show b ≠ A; omega) v2).far (p := ⟨A, 3, none⟩) (by show b ≠ A; omega) v3⟩,
    ⟨(((hK.far hb (p := ⟨A, 0, none⟩) hA v0).far hb (p := ⟨A, 1, none⟩) hA v1).far hb (p := ⟨A, 2, none⟩) hA v2).far hb (p := ⟨A, 3, none⟩) hA v3⟩,
    ⟨four_set hN v0 v1 v2 v3⟩, ⟨fun ok p cs h hp => (((hp.far (q := ⟨A, 0, none⟩) h v0).far (q := ⟨A, 1, none⟩) h v1).far (q := ⟨A, 2, none⟩) h v2).far (q := ⟨A, 3, none⟩) h v3⟩,
    ⟨fun g o hg ho => (Below.heap_setCell _ ⟨A, 3, none⟩ v3 g hg).trans ((Below.heap_setCell _ ⟨A, 2, none⟩ v2 g hg).trans ((Below.heap_setCell _ ⟨A, 1, none⟩ v1 g hg).trans ((Below.heap_setCell _ ⟨A, 0, none⟩ v0 g hg).trans ho)))⟩,
    ⟨by simp [World.setCell]⟩⟩
/-- A fresh result's block. -/
theorem res4 (w : World) {b : Nat} (hb : b < w.heap.size) : ∃ wa, wa = w.alloc (.cells #[.int .i64 0, .string ⟨#[]⟩, .slice none 0 0, .slice none 0 0] 25) ∧ Aside0 (Kb b w wa) ∧ Aside0 (Below w.heap.size w wa) ∧ Aside0 (wa.heap[w.heap.size]? = some (.cells #[.int .i64 0, .string ⟨#[]⟩, .slice none 0 0, .slice none 0 0] 25 (0, 0))) ∧ Aside0 (wa.heap.size = w.heap.size + 1) := by
  have h : Below w.heap.size w (w.alloc (.cells #[.int .i64 0, .string ⟨#[]⟩, .slice none 0 0, .slice none 0 0] 25)) := below_alloc (Below.refl _ _) _
  exact ⟨_, rfl, ⟨Kb.of h hb⟩, ⟨h⟩, ⟨heap_alloc_new _ _⟩, ⟨by simp⟩⟩
theorem R_kb {α : Type} {d : Kd α} {e base : Nat} {ok : Nat → Prop} {w w1 : World} {v : Value} {xs : List α} {b : Nat} (h : d.R e w base ok v xs) (hk : Kb b w w1) (hb : b < base) : d.R e w1 base ok v xs :=
  Kd.R_mono (Kd.R_step (Kd.R_bound h) (fun k hk' hl => hk.2 k hl (by have := hk'.2.1; omega))) (fun _ hk' => hk'.1)
theorem ts_of_R {e base : Nat} {ok : Nat → Prop} {w : World} {v : Value} {ts : List ByteArray} (h : Kd.string.R e w base ok v ts) : ∃ A c, v = .slice A ts.length c ∧ ts.length ≤ c ∧ TsAt w (fun g => base ≤ g) A ts := by
  obtain ⟨A, c, he, hl, hr⟩ := Kd.R_reads h
  refine ⟨A, c, he, hl, Kd.C_max hr, fun h0 => ?_⟩
  obtain ⟨ad, e1, hc⟩ := hr.2.2 h0
  have cell : ∀ (j : Nat) t, ts[j]? = some t → w.cell? (ad.add j) = some (.string t) := fun j t ht => by
    obtain ⟨cs, h1, h2, h3⟩ := hc j t ht
    have h2 : cs = [.string t] := h2
    have := h3 0 (.string t) (by rw [h2]; rfl)
    simpa [Kd.string, Kd.scalar] using this
  have hs : ad = ⟨ad.block, ad.off, none⟩ := by
    have := cell 0 _ (List.getElem?_eq_getElem h0)
    have h2 : w.cell? ad = some _ := this
    obtain ⟨x, y, sp⟩ := ad
    cases sp with
    | none => rfl
    | some z =>
      unfold World.cell? at h2
      simp at h2
      split at h2 <;> cases h2
  refine ⟨ad.block, ad.off, by rw [e1]; exact congrArg some hs, ?_, fun j t ht => ?_⟩
  · exact ((Kd.R_bound h).1 ad.block (by rw [he, e1]; rfl)).2.1
  · have := cell j t ht
    rw [hs] at this
    unfold Addr.add at this
    split at this
    · rename_i h; subst h; exact this
    · exact this
theorem lit_Rs (w : World) (base : Nat) (t : ByteArray) (hb : base ≤ w.heap.size) : Kd.string.R 9 (w.alloc (.cells #[.string t] 9)) base (fun _ => True) (.slice (some ⟨w.heap.size, 0, none⟩) 1 1) [t] := by
  refine Kd.R_of_own (enc := Value.string) (h1 := fun _ => rfl) (xs := [t]) ?_ (fun _ _ => trivial)
  exact ⟨by simp [encs], .inr ⟨w.heap.size, 1, #[.string t], rfl, hb, heap_alloc_new _ _, Nat.le_refl _, by decide, rfl, by simp [encs]⟩⟩
end Go.Proofs.YtbaegfjoionojaaDoor.Qy
