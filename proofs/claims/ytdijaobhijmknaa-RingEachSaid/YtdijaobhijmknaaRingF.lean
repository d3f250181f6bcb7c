/- The walks of Clone, the closure of All, IndexFunc and DeleteFunc over triples. -/
import Derived.Test.YtdijaobhijmknaaRingE
import Derived.Maps.AppendAt
import Derived.Lib.SliceRun
set_option linter.unusedSimpArgs false
set_option linter.unusedVariables false
namespace Go.Proofs.Ytdijaobhijmknaa.Rg
open Go Go.RowKit Go.Proofs.YtdijaobhijmknaaW.PrintWords Go.Proofs.YtdijaobhijmknaaW.PrintLast Go.Proofs.YtdijaobhijmknaaW.PrintMore
attribute [local go_sem] max2_int min2_int max_two min_two

theorem info_tri_at : ∃ i : TypeInfo, Try.prog.info? 54 = some i ∧ i.zero = some (.agg #[.int .i64 0, .int .i64 0, .int .i64 0]) ∧ i.size = 3 ∧ i.bytes = 24 := by
  have h := info_tri
  cases hi : Try.prog.info? 54 with
  | none => rw [hi] at h; simp at h
  | some i =>
    rw [hi] at h
    simp at h
    exact ⟨i, rfl, h.1, h.2.1, h.2.2⟩
theorem eql_rows : ∀ (w : World) (a : Option Addr) (n c n' c' : Nat), (binOp .eql 52 (.slice a n c) (.slice none n' c')).run Try.prog w = .ok (.bool a.isNone) w := fun w a n c n' c' => Lib.run_eql_slice_nil w _ _ a n c n' c' Try.underlying52
set_option maxRecDepth 100000 in
theorem clone_none (c : Nat) (w : World) : Calls Try.prog 69 #[.slice none 0 c] w (RowP w []) := by
  have q := eql_rows
  go_enter Try.func69, Try.ntmps69
  go_wp2_with fail
  go_ret
  exact ⟨_, rfl, Kd.R_nil _ _ _ _ _, Below.refl _ _⟩
set_option maxRecDepth 100000 in
theorem clone_some (ad : Addr) (c : Nat) (ts : List Tri) (w : World) (hr : Kd.C kT w (some ad) ts.length ts) (hl : ts.length ≤ 1000) : Calls Try.prog 69 #[.slice (some ad) ts.length c] w (RowP w ts) := by
  have HC := Aside0.mk (Kd.C_alloc hr (.cells #[] 54))
  have HO : Aside0 (Kd.R kT 54 (w.alloc (.cells #[] 54)) w.heap.size (fun _ => True) (.slice (some ⟨w.heap.size, 0, none⟩) 0 0) []) := by
    have h := World.ownsRow_lit (base := w.heap.size) (e := 54) (size := 3) w #[] 0 (Nat.le_refl _) (by decide) (by simp)
    have h2 : (w.alloc (.cells #[] 54)).ownsRow w.heap.size 54 3 (.slice (some ⟨w.heap.size, 0, none⟩) 0 0) 0 [] := by simpa using h
    exact ⟨⟨fun _ _ => trivial, [], h2, Reps.none _ _⟩⟩
  have HB : Aside0 (Below w.heap.size w (w.alloc (.cells #[] 54))) := ⟨(Below.refl _ _).alloc (Nat.le_refl _) _⟩
  have HL : Aside0 (([] : List Tri).length + ts.length ≤ 1000) := ⟨by simpa using hl⟩
  have q := eql_rows
  clear hr hl
  go_enter Try.func69, Try.ntmps69
  go_wp2_with (first
    | ((with_reducible refine gate_builtin (b := .append) (xs := #[.tmp 5, .tmp 6]) rfl ?_); at_builtin; refine Kd.R_append_rows kT (Rr := kT.K w) (w0 := w) w.heap.size rfl (.tmp 5) (.tmp 6) 52 54 (.agg #[.int .i64 0, .int .i64 0, .int .i64 0]) 24 rfl Try.underlying52 info_tri rfl (by decide) (by omega) (.slice (some ⟨w.heap.size, 0, none⟩) 0 0) [] ts (some ad) ts.length c (fun _ => True) (fun _ => False) rfl rfl ?aO ?aR ?aK (fun _ hk => hk.elim) ?aF ?aB ?aS ?aL ?_; (case aO => exact HO.out); (case aR => exact HC.out); (case aK => exact (fun _ _ hk => hk)); (case aF => exact (fun _ _ => trivial)); (case aB => exact HB.out); (case aS => exact HB.out.size); (case aL => have := HL.out; omega); intro v7 w7 ho hb hg hat; have HO7 := Aside0.mk ho; have HB7 := Aside0.mk hb; clear ho hb hg hat))
  go_ret
  exact ⟨_, rfl, HO7.out, HB7.out⟩
theorem cloneT_any (A : Option Addr) (c : Nat) (ts : List Tri) (w : World) (hr : Kd.C kT w A ts.length ts) (hl : ts.length ≤ 1000) : Calls Try.prog 69 #[.slice A ts.length c] w (RowP w ts) := by
  cases A with
  | some ad => exact clone_some ad c ts w hr hl
  | none =>
    have h0 : ts = [] := by
      rcases Nat.eq_zero_or_pos ts.length with h | h
      · exact List.eq_nil_of_length_eq_zero h
      · obtain ⟨ad, e, _⟩ := hr.2.2 h
        cases e
    subst h0
    exact clone_none c w
/-- All's closure: is an element to be struck? b: the pattern's box. -/
theorem closure_any (b : Nat) (p t : Tri) (w : World) (hp : Boxed w b p) :
    Calls Try.prog 72 #[t.val, .pointer (some ⟨b, 0, none⟩)] w fun e w' => e = .returned (.bool (!matchB p t)) ∧ Below w.heap.size w w' := by
  have C := Aside0.mk (fun w => matches_any p t w)
  obtain ⟨wb, hwb, HX0, HW, HWS⟩ := boxed_world w t 54
  obtain ⟨p0, p1, p2⟩ := hp.below HW.out
  obtain ⟨t0, t1, t2⟩ := HX0.out
  have HN : Aside0 (b ≠ w.heap.size) := ⟨fun h => by have := World.block_lt_of_cell? w _ hp.1; simp at this; omega⟩
  unfold Tri.val at C ⊢
  clear hp
  rw [hwb] at p0 p1 p2 t0 t1 t2
  have HWB := Aside0.mk hwb
  clear hwb
  go_enter Try.func72, Try.ntmps72
  go_wp2_with (go_at_call 73; (with_reducible refine (C.out _).mono ?_); rintro e w1 ⟨rfl, hb⟩; have HB := Aside0.mk hb; clear hb)
  trace_state
  go_ret
  exact ⟨rfl, below_two' HW.out (by rw [HWB.out]; exact HB.out)⟩
end Go.Proofs.Ytdijaobhijmknaa.Rg
