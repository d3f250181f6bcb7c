/- The law RingOwn: what is handed in is not kept, what is answered is new memory. -/
import Derived.Test.YtdijaobhijmknaaRingK
set_option linter.unusedSimpArgs false
set_option linter.unusedVariables false
namespace Go.Proofs.Ytdijaobhijmknaa.Rg
open Go Go.RowKit Go.Proofs.YtdijaobhijmknaaW.PrintWords Go.Proofs.YtdijaobhijmknaaW.PrintLast Go.Proofs.YtdijaobhijmknaaW.PrintMore
attribute [local go_sem] max2_int min2_int max_two min_two

theorem OwnL.ptr {base : Nat} {w : World} {r : Value} {ts : List Tri} (h : OwnL base w r ts) : ∃ b, r = .pointer (some ⟨b, 0, none⟩) := by
  obtain ⟨b, _, _, e, _⟩ := h
  exact ⟨b, e⟩
theorem row_n {w w' : World} {l : List Tri} {e : Ending} {n : Nat} (hn : l.length = n) (h0 : 0 < n) (h : RowP w l e w') : ∃ g c, e = .returned (.slice (some ⟨g, 0, none⟩) n c) ∧ Kd.R kT 54 w' w.heap.size (fun _ => True) (.slice (some ⟨g, 0, none⟩) n c) l ∧ Below w.heap.size w w' ∧ w.heap.size ≤ g := by
  obtain ⟨v, rfl, hv, hb⟩ := h
  obtain ⟨A, c, rfl⟩ := Kd.R_slice hv
  rw [hn] at hv ⊢
  obtain ⟨g, rfl, hg, _⟩ := R_slot (by rw [← hn] at hv; exact hv) (by omega)
  exact ⟨g, c, rfl, hv, hb, hg⟩
theorem lit_store {w wl w1 : World} {cs : Array Value} {ty : TypeId} {x : Value} (h0 : Below w.heap.size w wl) (hsz : w.heap.size < wl.heap.size) (hk : wl.heap[w.heap.size]? = some (.cells cs ty (0, 0))) (hx : cs[0]? = some x) (hb : Below wl.heap.size wl w1) (u : Value) :
    w1.cell? ⟨w.heap.size, 0, none⟩ = some x ∧ w1.frozen? ⟨w.heap.size, 0, none⟩ = false ∧ Below w.heap.size w (w1.setCell ⟨w.heap.size, 0, none⟩ u) := by
  have hbk := (hb.block w.heap.size hsz).trans hk
  have hB := h0.trans (hb.mono h0.size)
  refine ⟨?_, blk_frozen hbk 0, hB.setCell (Nat.le_refl _) u⟩
  unfold World.cell?
  rw [hbk]
  exact hx
theorem row_store {w w2 w3 : World} {r : Value} {ts l : List Tri} {g c n : Nat} (h0 : Below w.heap.size w w2) (hI : IsL w2 r ts) (hv : Kd.R kT 54 w3 w2.heap.size (fun _ => True) (.slice (some ⟨g, 0, none⟩) n c) l) (hn : 0 < n) (hb : Below w2.heap.size w2 w3) (hg : w2.heap.size ≤ g) (u : Value) :
    (∃ x, w3.cell? ⟨g, 2, none⟩ = some x) ∧ w3.frozen? ⟨g, 2, none⟩ = false ∧ IsL (w3.setCell ⟨g, 2, none⟩ u) r ts ∧ Below w.heap.size w (w3.setCell ⟨g, 2, none⟩ u) := by
  obtain ⟨k3, f3⟩ := row_at hv 0 hn ⟨0, 0, 0⟩
  exact ⟨⟨_, k3.2.2⟩, f3.2.2, hI.set hb hg u, (below_step h0 hb).setCell (Nat.le_trans h0.size hg) u⟩
set_option maxRecDepth 100000 in
set_option maxHeartbeats 2000000 in
theorem own_law (n : Int) (w : World) (_h : (Lit.int .i64 n).wf = true) : Calls Try.prog 20 #[.int .i64 n] w fun e w' => e = .returned (.bool true) ∧ Below w.heap.size w w' := by
  obtain ⟨ts, hts⟩ : ∃ ts : List Tri, ts = [⟨1, 2, 3⟩, ⟨1, 2, 4⟩] := ⟨_, rfl⟩
  have hl2 : ts.length = 2 := by rw [hts]; rfl
  have h2 : ((allL ts ⟨1, 2, 3⟩).length : Int) = 1 := by rw [hts]; decide
  have hm : mayB ts = true := by rw [hts]; decide
  have HLC : Aside0 (∀ W : World, Kd.C kT (W.alloc (.cells #[.int .i64 1, .int .i64 2, .int .i64 3, .int .i64 1, .int .i64 2, .int .i64 4] 54)) (some ⟨W.heap.size, 0, none⟩) 2 ts) := ⟨fun W => by
    rw [hts]; exact litT_C W [⟨1, 2, 3⟩, ⟨1, 2, 4⟩] (by decide)⟩
  obtain ⟨wl, hwl⟩ : ∃ wl, wl = w.alloc (.cells #[.int .i64 1, .int .i64 2, .int .i64 3, .int .i64 1, .int .i64 2, .int .i64 4] 54) := ⟨_, rfl⟩
  have HC := HLC.out w
  rw [← hwl] at HC
  have CN := new_ok (some ⟨w.heap.size, 0, none⟩) 2 ts wl (by rw [hl2]; exact HC) hm
  rw [hl2] at CN
  have HB0 : Aside0 (Below w.heap.size w wl) := ⟨by rw [hwl]; exact below_alloc (Below.refl _ _) _⟩
  have HSZ : Aside0 (w.heap.size < wl.heap.size) := ⟨by rw [hwl]; simp⟩
  have HBK : Aside0 (wl.heap[w.heap.size]? = some (.cells #[.int .i64 1, .int .i64 2, .int .i64 3, .int .i64 1, .int .i64 2, .int .i64 4] 54 (0, 0))) := ⟨by rw [hwl]; exact heap_alloc_new w _⟩
  have CA := Aside0.mk (fun r W (h : IsL W r ts) => all_any (r := r) ⟨0, 0, 0⟩ ts W h (by omega))
  rw [all_zero] at CA
  have C2 := Aside0.mk (fun r W (h : IsL W r ts) => ring_count (r := r) ⟨1, 2, 3⟩ ts W h (by omega))
  rw [h2] at C2
  have CS : Aside0 (∀ A B c d W, Kd.C kT W A 2 ts → Kd.C kT W B 2 ts → Calls Try.prog 51 #[.slice A 2 c, .slice B 2 d] W fun e w' => e = .returned (.bool true) ∧ Below W.heap.size W w') := ⟨fun A B c d W ha hb => by
    have := refSame_any A B c d ts ts W (by rw [hl2]; exact ha) (by rw [hl2]; exact hb) (by omega) (by omega)
    rw [hl2, decide_eq_true (rfl : ts = ts)] at this
    exact this⟩
  have CK := Aside0.mk known_any
  unfold Tri.val at CA C2
  have HL2 := Aside0.mk hl2
  rw [hwl] at CN
  have CN := Aside0.mk CN
  have HWL := Aside0.mk hwl
  clear hts hl2 h2 hm HC hwl
  go_enter Try.func20, Try.ntmps20
  go_wp2_with (first
    | (go_at_call 45; (with_reducible refine CN.out.mono ?_); (rintro e w1 ⟨r, rfl, _, hr, hb⟩; rw [← HWL.out] at hr hb; obtain ⟨rb, e2⟩ := hr.ptr; subst e2; have HS := Aside0.mk (hr.set (g := w.heap.size) (k := 0) HSZ.out (.int .i64 n)); obtain ⟨hcl, hfz, hbs⟩ := lit_store HB0.out HSZ.out HBK.out rfl hb (.int .i64 n); have HBS := Aside0.mk hbs; clear hr hb hbs))
    | (go_at_call 52; (with_reducible refine (CA.out _ _ HS.out.l).mono ?_); (rintro e w3 hw; obtain ⟨g3, c3, rfl, hv, hb, hg⟩ := row_n HL2.out (by omega) hw; obtain ⟨⟨x3, k3⟩, f3, hi3, hb3⟩ := row_store HBS.out HS.out.l hv (by omega) hb hg (.int .i64 n); have HI3 := Aside0.mk hi3; have HB3 := Aside0.mk hb3; clear hw hv hb hg hi3 hb3))
    | (go_at_call 50; (with_reducible refine (C2.out _ _ HI3.out).mono ?_); rintro e w5 ⟨rfl, hb⟩; have HI5 := Aside0.mk (HI3.out.below hb); have HB5 := Aside0.mk (below_step HB3.out hb); clear hb)
    | (go_at_call 52; (with_reducible refine (CA.out _ _ HI5.out).mono ?_); rintro e w6 hw; obtain ⟨g6, c6, rfl, hv, hb, hg⟩ := row_n HL2.out (by omega) hw; have HB6 := Aside0.mk (below_step HB5.out hb); have HV6 := Aside0.mk (Bs.reads_n hv).2.2; clear hw hv hb hg)
    | (go_at_call 51; (with_reducible refine (CS.out _ _ _ _ _ (Kd.C_alloc HV6.out _) (HLC.out w6)).mono ?_); rintro e w7 ⟨rfl, hb⟩; have HB7 := Aside0.mk (below_step (below_alloc HB6.out _) hb); clear hb)
    | (go_at_call 47; (with_reducible refine (CK.out _).mono ?_); rintro e w8 ⟨rfl, hb⟩; have HB8 := Aside0.mk (below_step HB7.out hb); clear hb))
  go_ret
  exact ⟨rfl, HB8.out⟩
end Go.Proofs.Ytdijaobhijmknaa.Rg
