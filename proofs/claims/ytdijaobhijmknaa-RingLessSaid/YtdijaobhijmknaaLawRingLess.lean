/- The law RingLess: without one triple all patterns that do not match it count the same, the others one less. -/
import Derived.Test.YtdijaobhijmknaaRingP
import Derived.Test.YtdijaobhijmknaaOpenT
import Derived.Deep.RegionHeld3
set_option linter.unusedSimpArgs false
set_option linter.unusedVariables false
namespace Go.Proofs.Ytdijaobhijmknaa.Rg
open Go Go.RowKit Go.Proofs.YtdijaobhijmknaaW.PrintWords Go.Proofs.YtdijaobhijmknaaW.PrintLast Go.Proofs.YtdijaobhijmknaaW.PrintMore
attribute [local go_sem] max2_int min2_int max_two min_two

theorem less_none (A : Option Addr) (c : Nat) (at_ : Int) (p : Tri) (w : World) :
    Calls Try.prog 18 #[.slice A 0 c, .int .i64 at_, p.val] w fun e w' => e = .returned (.bool true) ∧ Below w.heap.size w w' := by
  unfold Tri.val
  go_enter Try.func18, Try.ntmps18
  go_wp2_with fail
  go_ret
  exact ⟨rfl, below_alloc (Below.refl _ _) _⟩
theorem less_long (A : Option Addr) (c : Nat) (at_ : Int) (l : List Tri) (p : Tri) (w : World) (hl : 60 < l.length) :
    Calls Try.prog 18 #[.slice A l.length c, .int .i64 at_, p.val] w fun e w' => e = .returned (.bool true) ∧ Below w.heap.size w w' := by
  have hl2 : (60 : Int) < (l.length : Int) := by omega
  unfold Tri.val
  clear hl
  go_enter Try.func18, Try.ntmps18
  go_wp2_with fail
  go_ret
  exact ⟨rfl, below_alloc (Below.refl _ _) _⟩
theorem less_no (A : Option Addr) (c : Nat) (at_ : Int) (l : List Tri) (p : Tri) (w : World) (hr : Kd.C kT w A l.length l) (h0 : 0 < l.length) (hl : l.length ≤ 60) (hm : mayB l = false) :
    Calls Try.prog 18 #[.slice A l.length c, .int .i64 at_, p.val] w fun e w' => e = .returned (.bool true) ∧ Below w.heap.size w w' := by
  obtain ⟨wb, hwb, HX0, HW, HWS⟩ := boxed_world w p 54
  have CM := Aside0.mk (refMay_any A c l wb (Kd.C_below hr HW.out) (by omega))
  rw [hm] at CM
  obtain ⟨n, hn⟩ : ∃ n, n = l.length := ⟨_, rfl⟩
  rw [← hn] at CM hl h0 ⊢
  have hl2 : (n : Int) ≤ 60 := by omega
  have hl3 : 1 ≤ (n : Int) := by omega
  unfold Tri.val
  rw [hwb] at CM HW
  clear hr hn hm hl hwb HX0 HWS h0
  go_enter Try.func18, Try.ntmps18
  go_wp2_with (first
    | (go_at_call 46; (with_reducible refine CM.out.mono ?_); rintro e w2 ⟨rfl, hb⟩; have HB2 := Aside0.mk (below_step HW.out hb); clear hb))
  go_ret
  exact ⟨rfl, HB2.out⟩
theorem mask_lt (x : Int) : 0 ≤ bits .and .i64 x 1023 ∧ bits .and .i64 x 1023 ≤ 1023 := by
  have h : (BitVec.ofInt 64 x &&& BitVec.ofInt 64 1023).toNat ≤ 1023 := by
    rw [BitVec.toNat_and]; exact Nat.le_trans Nat.and_le_right (by decide)
  have e : bits .and .i64 x 1023 = ((BitVec.ofInt 64 x &&& BitVec.ofInt 64 1023).toNat : Int) := by
    unfold bits
    show IntKind.i64.wrap ((BitVec.ofInt 64 x &&& BitVec.ofInt 64 1023).toNat : Int) = _
    exact IntWalk.i64_in _ (by omega)
  rw [e]
  omega
theorem less_at (x : Int) (n : Nat) (h : 0 < n) : ∃ k : Nat, (bits .and .i64 x 1023).tmod (n : Int) = (k : Int) ∧ k < n := by
  obtain ⟨h1, h2⟩ := mask_lt x
  have e := Int.tmod_eq_emod_of_nonneg (a := bits .and .i64 x 1023) (b := (n : Int)) h1
  have g1 := Int.emod_nonneg (bits .and .i64 x 1023) (show (n : Int) ≠ 0 by omega)
  have g2 := Int.emod_lt_of_pos (bits .and .i64 x 1023) (show (0 : Int) < (n : Int) by omega)
  exact ⟨((bits .and .i64 x 1023) % (n : Int)).toNat, by rw [e]; omega, by omega⟩
set_option maxRecDepth 100000 in
set_option maxHeartbeats 4000000 in
theorem less_yes (A : Option Addr) (c : Nat) (at_ : Int) (l : List Tri) (p : Tri) (w : World) (hr : Kd.C kT w A l.length l) (hlc : l.length ≤ c) (h0 : 0 < l.length) (hl : l.length ≤ 60) (hm : mayB l = true) :
    Calls Try.prog 18 #[.slice A l.length c, .int .i64 at_, p.val] w fun e w' => e = .returned (.bool true) ∧ Below w.heap.size w w' := by
  obtain ⟨z, hz⟩ : ∃ z : Tri, z = ⟨0, 0, 0⟩ := ⟨_, rfl⟩
  obtain ⟨wb, hwb, HX0, HW, HWS⟩ := boxed_world w p 54
  have HL0 := Kd.C_below hr HW.out
  have CM := Aside0.mk (refMay_any A c l wb HL0 (by omega))
  rw [hm] at CM
  obtain ⟨n, hn⟩ : ∃ n, n = l.length := ⟨_, rfl⟩
  obtain ⟨k, HK, hk⟩ := less_at at_ n (by omega)
  have hlk : (l.take k).length = k := by rw [List.length_take]; omega
  have hld : (l.drop (k + 1)).length = n - (k + 1) := by rw [List.length_drop]; omega
  obtain ⟨m, hmm⟩ : ∃ m, m = without l k := ⟨_, rfl⟩
  have hmb : mayB m = true := by rw [hmm]; exact without_may k hm
  have hml : m.length ≤ 60 := by
    rw [hmm]; unfold without; rw [List.length_append, hlk, hld]; omega
  have CN := Aside0.mk (fun W (h : Kd.C kT W A l.length l) => new_ok A c l W h hm)
  have CX := Aside0.mk (fun A c W (h : Kd.C kT W A m.length m) => new_ok A c m W h hmb)
  obtain ⟨t, ht⟩ : ∃ t, t = l.getD k z := ⟨_, rfl⟩
  have hcount := without_count (ts := l) (k := k) p z (by omega)
  rw [← ht, ← hmm] at hcount
  obtain ⟨cx, hcx⟩ : ∃ cx : Int, cx = ((allL m p).length : Int) := ⟨_, rfl⟩
  have hcx0 : 0 ≤ cx ∧ cx ≤ 60 := by have := allL_len m p; omega
  have CR := Aside0.mk (fun r W (h : IsL W r l) => ring_count (r := r) p l W h (by omega))
  have CC := Aside0.mk (fun r W (h : IsL W r m) => ring_count (r := r) p m W h (by omega))
  rw [hcount, ← hcx] at CR
  rw [← hcx] at CC
  have CT := Aside0.mk (fun W => refMatches_any p t W)
  have CK := Aside0.mk known_any
  have HTK := Aside0.mk (fun W (h : Kd.C kT W A l.length l) => at3_of h k (by omega) z)
  rw [← ht] at HTK
  have HLK := Aside0.mk (fun W (h : Kd.C kT W A l.length l) => Kd.C_take (m := k) h (by omega))
  have HLD := Aside0.mk (fun W (h : Kd.C kT W A l.length l) => Kd.C_drop (m := k + 1) (c := c) h (by omega) (by omega))
  rw [hlk] at HLK
  rw [hld] at HLD
  have HM : Aside0 (([] ++ l.take k) ++ l.drop (k + 1) = m) := ⟨by rw [hmm]; rfl⟩
  rw [← hn] at CM CN HTK HLK HLD HL0 hl h0 hlc ⊢
  have HLN : Aside0 (([] ++ l.take k).length = k) := ⟨hlk⟩
  have hl2 : (n : Int) ≤ 60 := by omega
  have hl3 : 1 ≤ (n : Int) := by omega
  have hk1 : (0 : Int) ≤ (k : Int) := by omega
  have hk2 : (k : Int) < (n : Int) := by omega
  have HWB := Aside0.mk hwb
  have HHL := Aside0.mk HL0
  have HKK := Aside0.mk HK
  obtain ⟨q1, q2⟩ := hcx0
  unfold Tri.val at *
  rw [hwb] at CM HW HX0 HHL
  clear hr hn hm hl hwb HWS hz HL0 HK hmm hmb hml hcount hcx ht hlk hld h0
  go_enter Try.func18, Try.ntmps18
  go_upto_region 4 with (first
    | (go_at_call 46; (with_reducible refine CM.out.mono ?_); rintro e w1 ⟨rfl, hb⟩; have HB1 := Aside0.mk (below_step HW.out hb); have HX1 := Aside0.mk (HX0.out.below hb); have HL1 := Aside0.mk (Kd.C_below HHL.out hb); clear hb))
  rw [HKK.out]
  clear HKK HHL HX0 HW CM
  have HB2 := Aside0.mk (below_drew HB1.out)
  have HX2 : Aside0 (Boxed w1.drew w.heap.size p) := ⟨HX1.out⟩
  have HL2 := Aside0.mk (Kd.C_below HL1.out (below_drew (Below.refl _ _)))
  have HB3 := Aside0.mk (below_alloc HB2.out (.cells #[] 54))
  have HL3 := Aside0.mk (Kd.C_below HL2.out (below_alloc (Below.refl _ _) (.cells #[] 54)))
  have HR3 := Aside0.mk (litT_R w1.drew w.heap.size [] HB2.out.size (by decide))
  obtain ⟨it, g1, g2, g3, g4⟩ := info_tri_at
  have hs1 := cut_from (P := Try.prog) 52 54 .i64 Try.underlying52 g1 3 g3 A n c ((k : Int) + 1) (by omega) (by omega)
  have hs2 := cut_to (P := Try.prog) 52 54 .i64 Try.underlying52 g1 A n c (k : Int) (by omega) (by omega) hlc
  have hw1 : IntKind.i64.wrap ((k : Int) + 1) = (k : Int) + 1 := IntWalk.i64_in _ (by omega)
  have hn1 : ((k : Int) + 1).toNat = k + 1 := by omega
  simp only [Int.toNat_natCast, hn1] at hs1 hs2
  obtain ⟨A6, hA6⟩ : ∃ x : Option Addr, x = (if c = k + 1 then A else A.map (·.add ((k + 1) * 3))) := ⟨_, rfl⟩
  have HD2 := Aside0.mk (HLD.out _ HL2.out)
  rw [show kT.sz = 3 from rfl, ← hA6] at HD2
  rw [← hA6] at hs1
  clear g1 g2 g3 g4 hn1 hA6
  have hS : (fun _ : World => True) w1.drew := trivial
  refine wp_region_held (S := (fun _ : World => True)) (by kernel_rfl) ?_
  change wpAnyH _ _ _ _ _ _ _ _ w1.drew
  first
    | (refine wpAnyH_take (i := 1) (v := undef) rfl (by kernel_rfl) (by kernel_rfl) (by kernel_rfl) (fun _ _ _ h => h) (Or.inr ⟨by rfl, rfl⟩) hS ?_)
    | (refine wpAnyH_take (i := 1) (v := ?_) rfl (by kernel_rfl) (by kernel_rfl) (by kernel_rfl) (fun _ _ _ h => h) (Or.inl ⟨by rfl, ?_⟩) hS ?_
       rotate_left 1
       · (intro w0 hSw; (try dsimp only at hSw); go_split_ands; go_simp; try with_reducible rfl))
    | fail
  try simp only [Act.put, List.getElem_toArray, List.getElem_cons_succ, List.getElem_cons_zero, List.setIfInBounds_toArray, List.set_cons_zero, List.set_cons_succ]
  first
    | (refine wpAnyH_take (i := 2) (v := undef) rfl (by kernel_rfl) (by kernel_rfl) (by kernel_rfl) (fun _ _ _ h => h) (Or.inr ⟨by rfl, rfl⟩) hS ?_)
    | (refine wpAnyH_take (i := 2) (v := ?_) rfl (by kernel_rfl) (by kernel_rfl) (by kernel_rfl) (fun _ _ _ h => h) (Or.inl ⟨by rfl, ?_⟩) hS ?_
       rotate_left 1
       · (intro w0 hSw; (try dsimp only at hSw); go_split_ands; go_simp; try with_reducible rfl))
    | fail
  try simp only [Act.put, List.getElem_toArray, List.getElem_cons_succ, List.getElem_cons_zero, List.setIfInBounds_toArray, List.set_cons_zero, List.set_cons_succ]
  first
    | (refine wpAnyH_take (i := 3) (v := undef) rfl (by kernel_rfl) (by kernel_rfl) (by kernel_rfl) (fun _ _ _ h => h) (Or.inr ⟨by rfl, rfl⟩) hS ?_)
    | (refine wpAnyH_take (i := 3) (v := ?_) rfl (by kernel_rfl) (by kernel_rfl) (by kernel_rfl) (fun _ _ _ h => h) (Or.inl ⟨by rfl, ?_⟩) hS ?_
       rotate_left 1
       · (intro w0 hSw; (try dsimp only at hSw); go_split_ands; go_simp; try with_reducible rfl))
    | fail
  try simp only [Act.put, List.getElem_toArray, List.getElem_cons_succ, List.getElem_cons_zero, List.setIfInBounds_toArray, List.set_cons_zero, List.set_cons_succ]
  first
    | (refine wpAnyH_take (i := 5) (v := undef) rfl (by kernel_rfl) (by kernel_rfl) (by kernel_rfl) (fun _ _ _ h => h) (Or.inr ⟨by rfl, rfl⟩) hS ?_)
    | (refine wpAnyH_take (i := 5) (v := ?_) rfl (by kernel_rfl) (by kernel_rfl) (by kernel_rfl) (fun _ _ _ h => h) (Or.inl ⟨by rfl, ?_⟩) hS ?_
       rotate_left 1
       · (intro w0 hSw; (try dsimp only at hSw); go_split_ands; go_simp; try with_reducible rfl))
    | fail
  try simp only [Act.put, List.getElem_toArray, List.getElem_cons_succ, List.getElem_cons_zero, List.setIfInBounds_toArray, List.set_cons_zero, List.set_cons_succ]
  first
    | (refine wpAnyH_take (i := 6) (v := undef) rfl (by kernel_rfl) (by kernel_rfl) (by kernel_rfl) (fun _ _ _ h => h) (Or.inr ⟨by rfl, rfl⟩) hS ?_)
    | (refine wpAnyH_take (i := 6) (v := ?_) rfl (by kernel_rfl) (by kernel_rfl) (by kernel_rfl) (fun _ _ _ h => h) (Or.inl ⟨by rfl, ?_⟩) hS ?_
       rotate_left 1
       · (intro w0 hSw; (try dsimp only at hSw); go_split_ands; go_simp; try with_reducible rfl))
    | fail
  try simp only [Act.put, List.getElem_toArray, List.getElem_cons_succ, List.getElem_cons_zero, List.setIfInBounds_toArray, List.set_cons_zero, List.set_cons_succ]
  first
    | (refine wpAnyH_take (i := 7) (v := undef) rfl (by kernel_rfl) (by kernel_rfl) (by kernel_rfl) (fun _ _ _ h => h) (Or.inr ⟨by rfl, rfl⟩) hS ?_)
    | (refine wpAnyH_take (i := 7) (v := ?_) rfl (by kernel_rfl) (by kernel_rfl) (by kernel_rfl) (fun _ _ _ h => h) (Or.inl ⟨by rfl, ?_⟩) hS ?_
       rotate_left 1
       · (intro w0 hSw; (try dsimp only at hSw); go_split_ands; go_simp; try with_reducible rfl))
    | fail
  try simp only [Act.put, List.getElem_toArray, List.getElem_cons_succ, List.getElem_cons_zero, List.setIfInBounds_toArray, List.set_cons_zero, List.set_cons_succ]
  first
    | (refine wpAnyH_take (i := 8) (v := undef) rfl (by kernel_rfl) (by kernel_rfl) (by kernel_rfl) (fun _ _ _ h => h) (Or.inr ⟨by rfl, rfl⟩) hS ?_)
    | (refine wpAnyH_take (i := 8) (v := ?_) rfl (by kernel_rfl) (by kernel_rfl) (by kernel_rfl) (fun _ _ _ h => h) (Or.inl ⟨by rfl, ?_⟩) hS ?_
       rotate_left 1
       · (intro w0 hSw; (try dsimp only at hSw); go_split_ands; go_simp; try with_reducible rfl))
    | fail
  try simp only [Act.put, List.getElem_toArray, List.getElem_cons_succ, List.getElem_cons_zero, List.setIfInBounds_toArray, List.set_cons_zero, List.set_cons_succ]
  clear hs1 hs2 hw1
  refine wpAnyH_ready (rs := [0]) (by kernel_rfl) (by simp) ?_
  refine AllReadyH.cons rfl (fun K hK => ?_) AllReadyH.nil
  go_simp
  refine hK.out _ _ trivial (fun _ => ?_)
  clear hK K
  try simp only [Act.put, List.getElem_toArray, List.getElem_cons_succ, List.getElem_cons_zero, List.setIfInBounds_toArray, List.set_cons_zero, List.set_cons_succ]
  refine wpAnyH_ready (rs := [4]) (by kernel_rfl) (by simp) ?_
  refine AllReadyH.cons rfl (fun K hK => ?_) AllReadyH.nil
  refine Kd.R_append_rows_step kT (Rr := fun (x : Tri) (cs : List Value) => cs = x.cells) (w0 := w) (W := (w1.drew.alloc (.cells #[] 54))) w.heap.size ?aW (.tmp 32) (.tmp 35) 52 54 (.agg #[.int .i64 0, .int .i64 0, .int .i64 0]) 24 ?aO1 Try.underlying52 info_tri rfl (by decide) (by omega) (.slice (some ⟨w1.drew.heap.size, 0, none⟩) 0 0) [] (l.take k) A k c (fun _ => True) (fun _ => False) ?aE ?aX ?aO ?aR ?aKM (fun _ hk => hk.elim) (fun _ _ => trivial) ?aB ?aS ?aL ?_
  case aW => rfl
  case aO1 => rfl
  case aE => rfl
  case aX => rfl
  case aO => exact HR3.out
  case aR => exact HLK.out _ HL3.out
  case aKM => exact fun _ _ h => h
  case aB => exact HB3.out
  case aS => exact HB3.out.size
  case aL => simp; omega
  intro v4 w4 ho hb hg hat
  have HV4 := Aside0.mk ho
  have HB4 := Aside0.mk hb
  have hkk : Below w1.drew.heap.size w1.drew w4 := pw_below_grown (below_alloc (Below.refl _ _) _) _ (by simp) hg (fun k' hk => Nat.le_of_eq (Option.some.inj hk))
  have hal : w1.drew.heap.size ≤ (w1.drew.alloc (.cells #[] 54)).heap.size := by simp
  have hat4 : ∀ k', v4.ownBlock = some k' → w1.drew.heap.size ≤ k' := fun k' hk => by
    rcases hat with e | ⟨b, e, hle⟩
    · exact Nat.le_of_eq (Option.some.inj (e.symm.trans hk))
    · have e2 : b = k' := Option.some.inj (e.symm.trans hk)
      rw [← e2]; exact Nat.le_trans hal hle
  have HX4 := Aside0.mk (HX2.out.below hkk)
  have HL4 := Aside0.mk (Kd.C_below HL2.out hkk)
  have HD4 := Aside0.mk (Kd.C_below HD2.out hkk)
  have HKK4 := Aside0.mk hkk
  have HAT4 := Aside0.mk hat4
  clear ho hb hg hat hkk hat4 hal
  refine hK.out _ _ trivial (fun _ => ?_)
  clear hK K
  try simp only [Act.put, List.getElem_toArray, List.getElem_cons_succ, List.getElem_cons_zero, List.setIfInBounds_toArray, List.set_cons_zero, List.set_cons_succ]
  refine wpAnyH_ready (rs := [9]) (by kernel_rfl) (by simp) ?_
  refine AllReadyH.cons rfl (fun K hK => ?_) AllReadyH.nil
  refine Kd.R_append_rows_step kT (Rr := fun (x : Tri) (cs : List Value) => cs = x.cells) (w0 := w) (W := w4) w.heap.size ?aW (.tmp 36) (.tmp 40) 52 54 (.agg #[.int .i64 0, .int .i64 0, .int .i64 0]) 24 ?aO1 Try.underlying52 info_tri rfl (by decide) (by omega) v4 ([] ++ l.take k) (l.drop (k + 1)) A6 (n - (k + 1)) (c - (k + 1)) (fun _ => True) (fun _ => False) ?aE ?aX ?aO ?aR ?aKM (fun _ hk => hk.elim) (fun _ _ => trivial) ?aB ?aS ?aL ?_
  case aW => rfl
  case aO1 => rfl
  case aE => rfl
  case aX => rfl
  case aO => exact HV4.out
  case aR => exact HD4.out
  case aKM => exact fun _ _ h => h
  case aB => exact HB4.out
  case aS => exact HB4.out.size
  case aL => rw [HLN.out]; omega
  intro v5 w5 ho hb hg hat
  have HV5 := Aside0.mk ho
  have HB5 := Aside0.mk hb
  have hkk : Below w1.drew.heap.size w1.drew w5 := pw_below_grown HKK4.out _ HKK4.out.size hg (fun k hk => HAT4.out k hk)
  have HX5 := Aside0.mk (HX2.out.below hkk)
  have HL5 := Aside0.mk (Kd.C_below HL2.out hkk)
  rw [HM.out] at HV5
  obtain ⟨A5, c5, e5⟩ := Kd.R_slice HV5.out
  subst e5
  have HM5 := Aside0.mk (Bs.reads_n HV5.out).2.2
  clear ho hb hg hat hkk HKK4 HAT4 HX4 HL4 HD4 HV4 HB4 HX2 HL2 HD2 HL3 HR3 HB3
  refine hK.out _ _ trivial (fun _ => ?_)
  clear hK K
  try simp only [Act.put, List.getElem_toArray, List.getElem_cons_succ, List.getElem_cons_zero, List.setIfInBounds_toArray, List.set_cons_zero, List.set_cons_succ]
  first
    | (refine wpAnyH_take (i := 10) (v := undef) rfl (by kernel_rfl) (by kernel_rfl) (by kernel_rfl) (fun _ _ _ h => h) (Or.inr ⟨by rfl, rfl⟩) trivial ?_)
    | (refine wpAnyH_take (i := 10) (v := ?_) rfl (by kernel_rfl) (by kernel_rfl) (by kernel_rfl) (fun _ _ _ h => h) (Or.inl ⟨by rfl, ?_⟩) trivial ?_
       rotate_left 1
       · (intro w0 hSw; (try dsimp only at hSw); go_split_ands; go_simp; try with_reducible rfl))
    | fail
  try simp only [Act.put, List.getElem_toArray, List.getElem_cons_succ, List.getElem_cons_zero, List.setIfInBounds_toArray, List.set_cons_zero, List.set_cons_succ]
  refine wpAnyH_done (by kernel_rfl) ?_ _
  go_upto_region 10 with (first
    | (go_at_call 45; (with_reducible refine (CN.out _ HL5.out).mono ?_); rintro e w6 ⟨r, rfl, hr, _, hb⟩; have HB6 := Aside0.mk (below_step HB5.out hb); have HX6 := Aside0.mk (HX5.out.below hb); have HL6 := Aside0.mk (Kd.C_below HL5.out hb); have HM6 := Aside0.mk (Kd.C_below HM5.out hb); have HR6 := Aside0.mk hr; obtain ⟨rb, e5⟩ := hr.ptr; subst e5; clear hb hr)
    | (go_at_call 45; (with_reducible refine (CX.out _ _ _ HM6.out).mono ?_); rintro e w7 ⟨r, rfl, hr, _, hb⟩; have HB7 := Aside0.mk (below_step HB6.out hb); have HX7 := Aside0.mk (HX6.out.below hb); have HL7 := Aside0.mk (Kd.C_below HL6.out hb); have HR7 := Aside0.mk (HR6.out.below hb); have HZ7 := Aside0.mk hr; obtain ⟨xb, e5⟩ := hr.ptr; subst e5; clear hb hr))
  obtain ⟨ad, rfl, hq⟩ := HTK.out _ (Kd.C_below HL7.out (below_drew (Below.refl _ _)))
  have HQ8 : Aside0 (At3 w7.drew (ad.add (k * 3)) t) := ⟨hq⟩
  have HX8 : Aside0 (Boxed w7.drew w.heap.size p) := ⟨HX7.out⟩
  have HB8 := Aside0.mk (below_drew HB7.out)
  have HR8 := Aside0.mk (HR7.out.below (below_drew (Below.refl _ _)))
  have HZ8 := Aside0.mk (HZ7.out.below (below_drew (Below.refl _ _)))
  clear hq
  have hS : (fun W : World => (W.cell? ⟨w.heap.size, 0, none⟩ = some (.int .i64 p.s) ∧ W.cell? ⟨w.heap.size, 1, none⟩ = some (.int .i64 p.p) ∧ W.cell? ⟨w.heap.size, 2, none⟩ = some (.int .i64 p.o)) ∧ (W.cell? (ad.add (k * 3)) = some (.int .i64 t.s) ∧ W.cell? ⟨(ad.add (k * 3)).block, (ad.add (k * 3)).off + 1, none⟩ = some (.int .i64 t.p) ∧ W.cell? ⟨(ad.add (k * 3)).block, (ad.add (k * 3)).off + 2, none⟩ = some (.int .i64 t.o))) w7.drew := ⟨HX8.out, HQ8.out⟩
  refine wp_region_held (S := (fun W : World => (W.cell? ⟨w.heap.size, 0, none⟩ = some (.int .i64 p.s) ∧ W.cell? ⟨w.heap.size, 1, none⟩ = some (.int .i64 p.p) ∧ W.cell? ⟨w.heap.size, 2, none⟩ = some (.int .i64 p.o)) ∧ (W.cell? (ad.add (k * 3)) = some (.int .i64 t.s) ∧ W.cell? ⟨(ad.add (k * 3)).block, (ad.add (k * 3)).off + 1, none⟩ = some (.int .i64 t.p) ∧ W.cell? ⟨(ad.add (k * 3)).block, (ad.add (k * 3)).off + 2, none⟩ = some (.int .i64 t.o)))) (by kernel_rfl) ?_
  change wpAnyH _ _ _ _ _ _ _ _ w7.drew
  first
    | (refine wpAnyH_take (i := 0) (v := undef) rfl (by kernel_rfl) (by kernel_rfl) (by kernel_rfl) (fun _ _ _ h => h) (Or.inr ⟨by rfl, rfl⟩) hS ?_)
    | (refine wpAnyH_take (i := 0) (v := ?_) rfl (by kernel_rfl) (by kernel_rfl) (by kernel_rfl) (fun _ _ _ h => h) (Or.inl ⟨by rfl, ?_⟩) hS ?_
       rotate_left 1
       · (intro w0 hSw; (try dsimp only at hSw); go_split_ands; go_simp; try with_reducible rfl))
    | fail
  try simp only [Act.put, List.getElem_toArray, List.getElem_cons_succ, List.getElem_cons_zero, List.setIfInBounds_toArray, List.set_cons_zero, List.set_cons_succ]
  first
    | (refine wpAnyH_take (i := 1) (v := undef) rfl (by kernel_rfl) (by kernel_rfl) (by kernel_rfl) (fun _ _ _ h => h) (Or.inr ⟨by rfl, rfl⟩) hS ?_)
    | (refine wpAnyH_take (i := 1) (v := ?_) rfl (by kernel_rfl) (by kernel_rfl) (by kernel_rfl) (fun _ _ _ h => h) (Or.inl ⟨by rfl, ?_⟩) hS ?_
       rotate_left 1
       · (intro w0 hSw; (try dsimp only at hSw); go_split_ands; go_simp; try with_reducible rfl))
    | fail
  try simp only [Act.put, List.getElem_toArray, List.getElem_cons_succ, List.getElem_cons_zero, List.setIfInBounds_toArray, List.set_cons_zero, List.set_cons_succ]
  first
    | (refine wpAnyH_take (i := 2) (v := undef) rfl (by kernel_rfl) (by kernel_rfl) (by kernel_rfl) (fun _ _ _ h => h) (Or.inr ⟨by rfl, rfl⟩) hS ?_)
    | (refine wpAnyH_take (i := 2) (v := ?_) rfl (by kernel_rfl) (by kernel_rfl) (by kernel_rfl) (fun _ _ _ h => h) (Or.inl ⟨by rfl, ?_⟩) hS ?_
       rotate_left 1
       · (intro w0 hSw; (try dsimp only at hSw); go_split_ands; go_simp; try with_reducible rfl))
    | fail
  try simp only [Act.put, List.getElem_toArray, List.getElem_cons_succ, List.getElem_cons_zero, List.setIfInBounds_toArray, List.set_cons_zero, List.set_cons_succ]
  first
    | (refine wpAnyH_take (i := 3) (v := undef) rfl (by kernel_rfl) (by kernel_rfl) (by kernel_rfl) (fun _ _ _ h => h) (Or.inr ⟨by rfl, rfl⟩) hS ?_)
    | (refine wpAnyH_take (i := 3) (v := ?_) rfl (by kernel_rfl) (by kernel_rfl) (by kernel_rfl) (fun _ _ _ h => h) (Or.inl ⟨by rfl, ?_⟩) hS ?_
       rotate_left 1
       · (intro w0 hSw; (try dsimp only at hSw); go_split_ands; go_simp; try with_reducible rfl))
    | fail
  try simp only [Act.put, List.getElem_toArray, List.getElem_cons_succ, List.getElem_cons_zero, List.setIfInBounds_toArray, List.set_cons_zero, List.set_cons_succ]
  first
    | (refine wpAnyH_take (i := 4) (v := undef) rfl (by kernel_rfl) (by kernel_rfl) (by kernel_rfl) (fun _ _ _ h => h) (Or.inr ⟨by rfl, rfl⟩) hS ?_)
    | (refine wpAnyH_take (i := 4) (v := ?_) rfl (by kernel_rfl) (by kernel_rfl) (by kernel_rfl) (fun _ _ _ h => h) (Or.inl ⟨by rfl, ?_⟩) hS ?_
       rotate_left 1
       · (intro w0 hSw; (try dsimp only at hSw); go_split_ands; go_simp; try with_reducible rfl))
    | fail
  try simp only [Act.put, List.getElem_toArray, List.getElem_cons_succ, List.getElem_cons_zero, List.setIfInBounds_toArray, List.set_cons_zero, List.set_cons_succ]
  refine wpAnyH_ready (rs := [5]) (by kernel_rfl) (by simp) ?_
  refine AllReadyH.cons rfl (fun K hK => ?_) AllReadyH.nil
  go_simp
  refine (CT.out _).mono ?_
  rintro e w9 ⟨rfl, hb⟩
  have HB9 := Aside0.mk (below_step HB8.out hb)
  have HX9 := Aside0.mk (HX8.out.below hb)
  have HQ9 := Aside0.mk (HQ8.out.below hb)
  have HR9 := Aside0.mk (HR8.out.below hb)
  have HZ9 := Aside0.mk (HZ8.out.below hb)
  clear hb hS
  have hS : (fun W : World => (W.cell? ⟨w.heap.size, 0, none⟩ = some (.int .i64 p.s) ∧ W.cell? ⟨w.heap.size, 1, none⟩ = some (.int .i64 p.p) ∧ W.cell? ⟨w.heap.size, 2, none⟩ = some (.int .i64 p.o)) ∧ (W.cell? (ad.add (k * 3)) = some (.int .i64 t.s) ∧ W.cell? ⟨(ad.add (k * 3)).block, (ad.add (k * 3)).off + 1, none⟩ = some (.int .i64 t.p) ∧ W.cell? ⟨(ad.add (k * 3)).block, (ad.add (k * 3)).off + 2, none⟩ = some (.int .i64 t.o))) w9 := ⟨HX9.out, HQ9.out⟩
  refine hK.out _ _ hS (fun _ => ?_)
  clear hK K
  try simp only [Act.put, List.getElem_toArray, List.getElem_cons_succ, List.getElem_cons_zero, List.setIfInBounds_toArray, List.set_cons_zero, List.set_cons_succ]
  refine wpAnyH_done (by kernel_rfl) ?_ _
  clear HX8 HQ8 HB8 HR8 HZ8 hS
  cases hmt : matchB p t with
  | true =>
    rw [hmt, if_pos rfl] at CR
    have hw2 : IntKind.i64.wrap (cx + 1) = cx + 1 := IntWalk.i64_in _ (by omega)
    clear hmt
    go_upto_region 12 with (fail)
    have HX10 : Aside0 (Boxed w9.drew w.heap.size p) := ⟨HX9.out⟩
    have HB10 := Aside0.mk (below_drew HB9.out)
    have HR10 := Aside0.mk (HR9.out.below (below_drew (Below.refl _ _)))
    have HZ10 := Aside0.mk (HZ9.out.below (below_drew (Below.refl _ _)))
    have hS : (fun W : World => W.cell? ⟨w.heap.size, 0, none⟩ = some (.int .i64 p.s) ∧ W.cell? ⟨w.heap.size, 1, none⟩ = some (.int .i64 p.p) ∧ W.cell? ⟨w.heap.size, 2, none⟩ = some (.int .i64 p.o)) w9.drew := HX10.out
    refine wp_region_held (S := (fun W : World => W.cell? ⟨w.heap.size, 0, none⟩ = some (.int .i64 p.s) ∧ W.cell? ⟨w.heap.size, 1, none⟩ = some (.int .i64 p.p) ∧ W.cell? ⟨w.heap.size, 2, none⟩ = some (.int .i64 p.o))) (by kernel_rfl) ?_
    change wpAnyH _ _ _ _ _ _ _ _ w9.drew
    first
      | (refine wpAnyH_take (i := 0) (v := undef) rfl (by kernel_rfl) (by kernel_rfl) (by kernel_rfl) (fun _ _ _ h => h) (Or.inr ⟨by rfl, rfl⟩) hS ?_)
      | (refine wpAnyH_take (i := 0) (v := ?_) rfl (by kernel_rfl) (by kernel_rfl) (by kernel_rfl) (fun _ _ _ h => h) (Or.inl ⟨by rfl, ?_⟩) hS ?_
         rotate_left 1
         · (intro w0 hSw; (try dsimp only at hSw); go_split_ands; go_simp; try with_reducible rfl))
      | fail
    try simp only [Act.put, List.getElem_toArray, List.getElem_cons_succ, List.getElem_cons_zero, List.setIfInBounds_toArray, List.set_cons_zero, List.set_cons_succ]
    first
      | (refine wpAnyH_take (i := 1) (v := undef) rfl (by kernel_rfl) (by kernel_rfl) (by kernel_rfl) (fun _ _ _ h => h) (Or.inr ⟨by rfl, rfl⟩) hS ?_)
      | (refine wpAnyH_take (i := 1) (v := ?_) rfl (by kernel_rfl) (by kernel_rfl) (by kernel_rfl) (fun _ _ _ h => h) (Or.inl ⟨by rfl, ?_⟩) hS ?_
         rotate_left 1
         · (intro w0 hSw; (try dsimp only at hSw); go_split_ands; go_simp; try with_reducible rfl))
      | fail
    try simp only [Act.put, List.getElem_toArray, List.getElem_cons_succ, List.getElem_cons_zero, List.setIfInBounds_toArray, List.set_cons_zero, List.set_cons_succ]
    first
      | (refine wpAnyH_take (i := 3) (v := undef) rfl (by kernel_rfl) (by kernel_rfl) (by kernel_rfl) (fun _ _ _ h => h) (Or.inr ⟨by rfl, rfl⟩) hS ?_)
      | (refine wpAnyH_take (i := 3) (v := ?_) rfl (by kernel_rfl) (by kernel_rfl) (by kernel_rfl) (fun _ _ _ h => h) (Or.inl ⟨by rfl, ?_⟩) hS ?_
         rotate_left 1
         · (intro w0 hSw; (try dsimp only at hSw); go_split_ands; go_simp; try with_reducible rfl))
      | fail
    try simp only [Act.put, List.getElem_toArray, List.getElem_cons_succ, List.getElem_cons_zero, List.setIfInBounds_toArray, List.set_cons_zero, List.set_cons_succ]
    first
      | (refine wpAnyH_take (i := 4) (v := undef) rfl (by kernel_rfl) (by kernel_rfl) (by kernel_rfl) (fun _ _ _ h => h) (Or.inr ⟨by rfl, rfl⟩) hS ?_)
      | (refine wpAnyH_take (i := 4) (v := ?_) rfl (by kernel_rfl) (by kernel_rfl) (by kernel_rfl) (fun _ _ _ h => h) (Or.inl ⟨by rfl, ?_⟩) hS ?_
         rotate_left 1
         · (intro w0 hSw; (try dsimp only at hSw); go_split_ands; go_simp; try with_reducible rfl))
      | fail
    try simp only [Act.put, List.getElem_toArray, List.getElem_cons_succ, List.getElem_cons_zero, List.setIfInBounds_toArray, List.set_cons_zero, List.set_cons_succ]
    first
      | (refine wpAnyH_take (i := 6) (v := undef) rfl (by kernel_rfl) (by kernel_rfl) (by kernel_rfl) (fun _ _ _ h => h) (Or.inr ⟨by rfl, rfl⟩) hS ?_)
      | (refine wpAnyH_take (i := 6) (v := ?_) rfl (by kernel_rfl) (by kernel_rfl) (by kernel_rfl) (fun _ _ _ h => h) (Or.inl ⟨by rfl, ?_⟩) hS ?_
         rotate_left 1
         · (intro w0 hSw; (try dsimp only at hSw); go_split_ands; go_simp; try with_reducible rfl))
      | fail
    try simp only [Act.put, List.getElem_toArray, List.getElem_cons_succ, List.getElem_cons_zero, List.setIfInBounds_toArray, List.set_cons_zero, List.set_cons_succ]
    refine wpAnyH_ready (rs := [2]) (by kernel_rfl) (by simp) ?_
    refine AllReadyH.cons rfl (fun K hK => ?_) AllReadyH.nil
    go_simp
    refine (CR.out _ _ HR10.out.l).mono ?_
    rintro e w11 ⟨rfl, hb⟩
    have HB11 := Aside0.mk (below_step HB10.out hb)
    have HX11 := Aside0.mk (HX10.out.below hb)
    have HZ11 := Aside0.mk (HZ10.out.below hb)
    clear hb hS
    have hS : (fun W : World => W.cell? ⟨w.heap.size, 0, none⟩ = some (.int .i64 p.s) ∧ W.cell? ⟨w.heap.size, 1, none⟩ = some (.int .i64 p.p) ∧ W.cell? ⟨w.heap.size, 2, none⟩ = some (.int .i64 p.o)) w11 := HX11.out
    refine hK.out _ _ hS (fun _ => ?_)
    clear hK K
    try simp only [Act.put, List.getElem_toArray, List.getElem_cons_succ, List.getElem_cons_zero, List.setIfInBounds_toArray, List.set_cons_zero, List.set_cons_succ]
    refine wpAnyH_ready (rs := [5]) (by kernel_rfl) (by simp) ?_
    refine AllReadyH.cons rfl (fun K hK => ?_) AllReadyH.nil
    go_simp
    refine (CC.out _ _ HZ11.out.l).mono ?_
    rintro e w12 ⟨rfl, hb⟩
    have HB12 := Aside0.mk (below_step HB11.out hb)
    have HX12 := Aside0.mk (HX11.out.below hb)
    have HZ12 := Aside0.mk (HZ11.out.below hb)
    clear hb hS
    have hS : (fun W : World => W.cell? ⟨w.heap.size, 0, none⟩ = some (.int .i64 p.s) ∧ W.cell? ⟨w.heap.size, 1, none⟩ = some (.int .i64 p.p) ∧ W.cell? ⟨w.heap.size, 2, none⟩ = some (.int .i64 p.o)) w12 := HX12.out
    refine hK.out _ _ hS (fun _ => ?_)
    clear hK K
    try simp only [Act.put, List.getElem_toArray, List.getElem_cons_succ, List.getElem_cons_zero, List.setIfInBounds_toArray, List.set_cons_zero, List.set_cons_succ]
    first
      | (refine wpAnyH_take (i := 7) (v := undef) rfl (by kernel_rfl) (by kernel_rfl) (by kernel_rfl) (fun _ _ _ h => h) (Or.inr ⟨by rfl, rfl⟩) hS ?_)
      | (refine wpAnyH_take (i := 7) (v := ?_) rfl (by kernel_rfl) (by kernel_rfl) (by kernel_rfl) (fun _ _ _ h => h) (Or.inl ⟨by rfl, ?_⟩) hS ?_
         rotate_left 1
         · (intro w0 hSw; (try dsimp only at hSw); go_split_ands; go_simp; try with_reducible rfl))
      | fail
    try simp only [Act.put, List.getElem_toArray, List.getElem_cons_succ, List.getElem_cons_zero, List.setIfInBounds_toArray, List.set_cons_zero, List.set_cons_succ]
    first
      | (refine wpAnyH_take (i := 8) (v := undef) rfl (by kernel_rfl) (by kernel_rfl) (by kernel_rfl) (fun _ _ _ h => h) (Or.inr ⟨by rfl, rfl⟩) hS ?_)
      | (refine wpAnyH_take (i := 8) (v := ?_) rfl (by kernel_rfl) (by kernel_rfl) (by kernel_rfl) (fun _ _ _ h => h) (Or.inl ⟨by rfl, ?_⟩) hS ?_
         rotate_left 1
         · (intro w0 hSw; (try dsimp only at hSw); go_split_ands; go_simp; try with_reducible rfl))
      | fail
    try simp only [Act.put, List.getElem_toArray, List.getElem_cons_succ, List.getElem_cons_zero, List.setIfInBounds_toArray, List.set_cons_zero, List.set_cons_succ]
    first
      | (refine wpAnyH_take (i := 9) (v := undef) rfl (by kernel_rfl) (by kernel_rfl) (by kernel_rfl) (fun _ _ _ h => h) (Or.inr ⟨by rfl, rfl⟩) hS ?_)
      | (refine wpAnyH_take (i := 9) (v := ?_) rfl (by kernel_rfl) (by kernel_rfl) (by kernel_rfl) (fun _ _ _ h => h) (Or.inl ⟨by rfl, ?_⟩) hS ?_
         rotate_left 1
         · (intro w0 hSw; (try dsimp only at hSw); go_split_ands; go_simp; try with_reducible rfl))
      | fail
    try simp only [Act.put, List.getElem_toArray, List.getElem_cons_succ, List.getElem_cons_zero, List.setIfInBounds_toArray, List.set_cons_zero, List.set_cons_succ]
    refine wpAnyH_ready (rs := [10]) (by kernel_rfl) (by simp) ?_
    refine AllReadyH.cons rfl (fun K hK => ?_) AllReadyH.nil
    go_simp
    refine (CK.out _).mono ?_
    rintro e w13 ⟨rfl, hb⟩
    have HB13 := Aside0.mk (below_step HB12.out hb)
    have HX13 := Aside0.mk (HX12.out.below hb)
    have HZ13 := Aside0.mk (HZ12.out.below hb)
    clear hb hS
    have hS : (fun W : World => W.cell? ⟨w.heap.size, 0, none⟩ = some (.int .i64 p.s) ∧ W.cell? ⟨w.heap.size, 1, none⟩ = some (.int .i64 p.p) ∧ W.cell? ⟨w.heap.size, 2, none⟩ = some (.int .i64 p.o)) w13 := HX13.out
    refine hK.out _ _ hS (fun _ => ?_)
    clear hK K
    try simp only [Act.put, List.getElem_toArray, List.getElem_cons_succ, List.getElem_cons_zero, List.setIfInBounds_toArray, List.set_cons_zero, List.set_cons_succ]
    first
      | (refine wpAnyH_take (i := 11) (v := undef) rfl (by kernel_rfl) (by kernel_rfl) (by kernel_rfl) (fun _ _ _ h => h) (Or.inr ⟨by rfl, rfl⟩) hS ?_)
      | (refine wpAnyH_take (i := 11) (v := ?_) rfl (by kernel_rfl) (by kernel_rfl) (by kernel_rfl) (fun _ _ _ h => h) (Or.inl ⟨by rfl, ?_⟩) hS ?_
         rotate_left 1
         · (intro w0 hSw; (try dsimp only at hSw); go_split_ands; go_simp; try with_reducible rfl))
      | fail
    try simp only [Act.put, List.getElem_toArray, List.getElem_cons_succ, List.getElem_cons_zero, List.setIfInBounds_toArray, List.set_cons_zero, List.set_cons_succ]
    first
      | (refine wpAnyH_take (i := 12) (v := undef) rfl (by kernel_rfl) (by kernel_rfl) (by kernel_rfl) (fun _ _ _ h => h) (Or.inr ⟨by rfl, rfl⟩) hS ?_)
      | (refine wpAnyH_take (i := 12) (v := ?_) rfl (by kernel_rfl) (by kernel_rfl) (by kernel_rfl) (fun _ _ _ h => h) (Or.inl ⟨by rfl, ?_⟩) hS ?_
         rotate_left 1
         · (intro w0 hSw; (try dsimp only at hSw); go_split_ands; go_simp; try with_reducible rfl))
      | fail
    try simp only [Act.put, List.getElem_toArray, List.getElem_cons_succ, List.getElem_cons_zero, List.setIfInBounds_toArray, List.set_cons_zero, List.set_cons_succ]
    refine wpAnyH_done (by kernel_rfl) ?_ _
    go_wp2_with fail
    go_ret
    exact ⟨rfl, HB13.out⟩
  | false =>
    rw [hmt, if_neg (by simp), Int.add_zero] at CR
    have hw2 : IntKind.i64.wrap cx = cx := IntWalk.i64_in _ (by omega)
    clear hmt
    go_upto_region 12 with (fail)
    have HX10 : Aside0 (Boxed w9.drew w.heap.size p) := ⟨HX9.out⟩
    have HB10 := Aside0.mk (below_drew HB9.out)
    have HR10 := Aside0.mk (HR9.out.below (below_drew (Below.refl _ _)))
    have HZ10 := Aside0.mk (HZ9.out.below (below_drew (Below.refl _ _)))
    have hS : (fun W : World => W.cell? ⟨w.heap.size, 0, none⟩ = some (.int .i64 p.s) ∧ W.cell? ⟨w.heap.size, 1, none⟩ = some (.int .i64 p.p) ∧ W.cell? ⟨w.heap.size, 2, none⟩ = some (.int .i64 p.o)) w9.drew := HX10.out
    refine wp_region_held (S := (fun W : World => W.cell? ⟨w.heap.size, 0, none⟩ = some (.int .i64 p.s) ∧ W.cell? ⟨w.heap.size, 1, none⟩ = some (.int .i64 p.p) ∧ W.cell? ⟨w.heap.size, 2, none⟩ = some (.int .i64 p.o))) (by kernel_rfl) ?_
    change wpAnyH _ _ _ _ _ _ _ _ w9.drew
    first
      | (refine wpAnyH_take (i := 0) (v := undef) rfl (by kernel_rfl) (by kernel_rfl) (by kernel_rfl) (fun _ _ _ h => h) (Or.inr ⟨by rfl, rfl⟩) hS ?_)
      | (refine wpAnyH_take (i := 0) (v := ?_) rfl (by kernel_rfl) (by kernel_rfl) (by kernel_rfl) (fun _ _ _ h => h) (Or.inl ⟨by rfl, ?_⟩) hS ?_
         rotate_left 1
         · (intro w0 hSw; (try dsimp only at hSw); go_split_ands; go_simp; try with_reducible rfl))
      | fail
    try simp only [Act.put, List.getElem_toArray, List.getElem_cons_succ, List.getElem_cons_zero, List.setIfInBounds_toArray, List.set_cons_zero, List.set_cons_succ]
    first
      | (refine wpAnyH_take (i := 1) (v := undef) rfl (by kernel_rfl) (by kernel_rfl) (by kernel_rfl) (fun _ _ _ h => h) (Or.inr ⟨by rfl, rfl⟩) hS ?_)
      | (refine wpAnyH_take (i := 1) (v := ?_) rfl (by kernel_rfl) (by kernel_rfl) (by kernel_rfl) (fun _ _ _ h => h) (Or.inl ⟨by rfl, ?_⟩) hS ?_
         rotate_left 1
         · (intro w0 hSw; (try dsimp only at hSw); go_split_ands; go_simp; try with_reducible rfl))
      | fail
    try simp only [Act.put, List.getElem_toArray, List.getElem_cons_succ, List.getElem_cons_zero, List.setIfInBounds_toArray, List.set_cons_zero, List.set_cons_succ]
    first
      | (refine wpAnyH_take (i := 3) (v := undef) rfl (by kernel_rfl) (by kernel_rfl) (by kernel_rfl) (fun _ _ _ h => h) (Or.inr ⟨by rfl, rfl⟩) hS ?_)
      | (refine wpAnyH_take (i := 3) (v := ?_) rfl (by kernel_rfl) (by kernel_rfl) (by kernel_rfl) (fun _ _ _ h => h) (Or.inl ⟨by rfl, ?_⟩) hS ?_
         rotate_left 1
         · (intro w0 hSw; (try dsimp only at hSw); go_split_ands; go_simp; try with_reducible rfl))
      | fail
    try simp only [Act.put, List.getElem_toArray, List.getElem_cons_succ, List.getElem_cons_zero, List.setIfInBounds_toArray, List.set_cons_zero, List.set_cons_succ]
    first
      | (refine wpAnyH_take (i := 4) (v := undef) rfl (by kernel_rfl) (by kernel_rfl) (by kernel_rfl) (fun _ _ _ h => h) (Or.inr ⟨by rfl, rfl⟩) hS ?_)
      | (refine wpAnyH_take (i := 4) (v := ?_) rfl (by kernel_rfl) (by kernel_rfl) (by kernel_rfl) (fun _ _ _ h => h) (Or.inl ⟨by rfl, ?_⟩) hS ?_
         rotate_left 1
         · (intro w0 hSw; (try dsimp only at hSw); go_split_ands; go_simp; try with_reducible rfl))
      | fail
    try simp only [Act.put, List.getElem_toArray, List.getElem_cons_succ, List.getElem_cons_zero, List.setIfInBounds_toArray, List.set_cons_zero, List.set_cons_succ]
    first
      | (refine wpAnyH_take (i := 6) (v := undef) rfl (by kernel_rfl) (by kernel_rfl) (by kernel_rfl) (fun _ _ _ h => h) (Or.inr ⟨by rfl, rfl⟩) hS ?_)
      | (refine wpAnyH_take (i := 6) (v := ?_) rfl (by kernel_rfl) (by kernel_rfl) (by kernel_rfl) (fun _ _ _ h => h) (Or.inl ⟨by rfl, ?_⟩) hS ?_
         rotate_left 1
         · (intro w0 hSw; (try dsimp only at hSw); go_split_ands; go_simp; try with_reducible rfl))
      | fail
    try simp only [Act.put, List.getElem_toArray, List.getElem_cons_succ, List.getElem_cons_zero, List.setIfInBounds_toArray, List.set_cons_zero, List.set_cons_succ]
    refine wpAnyH_ready (rs := [2]) (by kernel_rfl) (by simp) ?_
    refine AllReadyH.cons rfl (fun K hK => ?_) AllReadyH.nil
    go_simp
    refine (CR.out _ _ HR10.out.l).mono ?_
    rintro e w11 ⟨rfl, hb⟩
    have HB11 := Aside0.mk (below_step HB10.out hb)
    have HX11 := Aside0.mk (HX10.out.below hb)
    have HZ11 := Aside0.mk (HZ10.out.below hb)
    clear hb hS
    have hS : (fun W : World => W.cell? ⟨w.heap.size, 0, none⟩ = some (.int .i64 p.s) ∧ W.cell? ⟨w.heap.size, 1, none⟩ = some (.int .i64 p.p) ∧ W.cell? ⟨w.heap.size, 2, none⟩ = some (.int .i64 p.o)) w11 := HX11.out
    refine hK.out _ _ hS (fun _ => ?_)
    clear hK K
    try simp only [Act.put, List.getElem_toArray, List.getElem_cons_succ, List.getElem_cons_zero, List.setIfInBounds_toArray, List.set_cons_zero, List.set_cons_succ]
    refine wpAnyH_ready (rs := [5]) (by kernel_rfl) (by simp) ?_
    refine AllReadyH.cons rfl (fun K hK => ?_) AllReadyH.nil
    go_simp
    refine (CC.out _ _ HZ11.out.l).mono ?_
    rintro e w12 ⟨rfl, hb⟩
    have HB12 := Aside0.mk (below_step HB11.out hb)
    have HX12 := Aside0.mk (HX11.out.below hb)
    have HZ12 := Aside0.mk (HZ11.out.below hb)
    clear hb hS
    have hS : (fun W : World => W.cell? ⟨w.heap.size, 0, none⟩ = some (.int .i64 p.s) ∧ W.cell? ⟨w.heap.size, 1, none⟩ = some (.int .i64 p.p) ∧ W.cell? ⟨w.heap.size, 2, none⟩ = some (.int .i64 p.o)) w12 := HX12.out
    refine hK.out _ _ hS (fun _ => ?_)
    clear hK K
    try simp only [Act.put, List.getElem_toArray, List.getElem_cons_succ, List.getElem_cons_zero, List.setIfInBounds_toArray, List.set_cons_zero, List.set_cons_succ]
    first
      | (refine wpAnyH_take (i := 7) (v := undef) rfl (by kernel_rfl) (by kernel_rfl) (by kernel_rfl) (fun _ _ _ h => h) (Or.inr ⟨by rfl, rfl⟩) hS ?_)
      | (refine wpAnyH_take (i := 7) (v := ?_) rfl (by kernel_rfl) (by kernel_rfl) (by kernel_rfl) (fun _ _ _ h => h) (Or.inl ⟨by rfl, ?_⟩) hS ?_
         rotate_left 1
         · (intro w0 hSw; (try dsimp only at hSw); go_split_ands; go_simp; try with_reducible rfl))
      | fail
    try simp only [Act.put, List.getElem_toArray, List.getElem_cons_succ, List.getElem_cons_zero, List.setIfInBounds_toArray, List.set_cons_zero, List.set_cons_succ]
    first
      | (refine wpAnyH_take (i := 8) (v := undef) rfl (by kernel_rfl) (by kernel_rfl) (by kernel_rfl) (fun _ _ _ h => h) (Or.inr ⟨by rfl, rfl⟩) hS ?_)
      | (refine wpAnyH_take (i := 8) (v := ?_) rfl (by kernel_rfl) (by kernel_rfl) (by kernel_rfl) (fun _ _ _ h => h) (Or.inl ⟨by rfl, ?_⟩) hS ?_
         rotate_left 1
         · (intro w0 hSw; (try dsimp only at hSw); go_split_ands; go_simp; try with_reducible rfl))
      | fail
    try simp only [Act.put, List.getElem_toArray, List.getElem_cons_succ, List.getElem_cons_zero, List.setIfInBounds_toArray, List.set_cons_zero, List.set_cons_succ]
    first
      | (refine wpAnyH_take (i := 9) (v := undef) rfl (by kernel_rfl) (by kernel_rfl) (by kernel_rfl) (fun _ _ _ h => h) (Or.inr ⟨by rfl, rfl⟩) hS ?_)
      | (refine wpAnyH_take (i := 9) (v := ?_) rfl (by kernel_rfl) (by kernel_rfl) (by kernel_rfl) (fun _ _ _ h => h) (Or.inl ⟨by rfl, ?_⟩) hS ?_
         rotate_left 1
         · (intro w0 hSw; (try dsimp only at hSw); go_split_ands; go_simp; try with_reducible rfl))
      | fail
    try simp only [Act.put, List.getElem_toArray, List.getElem_cons_succ, List.getElem_cons_zero, List.setIfInBounds_toArray, List.set_cons_zero, List.set_cons_succ]
    refine wpAnyH_ready (rs := [10]) (by kernel_rfl) (by simp) ?_
    refine AllReadyH.cons rfl (fun K hK => ?_) AllReadyH.nil
    go_simp
    refine (CK.out _).mono ?_
    rintro e w13 ⟨rfl, hb⟩
    have HB13 := Aside0.mk (below_step HB12.out hb)
    have HX13 := Aside0.mk (HX12.out.below hb)
    have HZ13 := Aside0.mk (HZ12.out.below hb)
    clear hb hS
    have hS : (fun W : World => W.cell? ⟨w.heap.size, 0, none⟩ = some (.int .i64 p.s) ∧ W.cell? ⟨w.heap.size, 1, none⟩ = some (.int .i64 p.p) ∧ W.cell? ⟨w.heap.size, 2, none⟩ = some (.int .i64 p.o)) w13 := HX13.out
    refine hK.out _ _ hS (fun _ => ?_)
    clear hK K
    try simp only [Act.put, List.getElem_toArray, List.getElem_cons_succ, List.getElem_cons_zero, List.setIfInBounds_toArray, List.set_cons_zero, List.set_cons_succ]
    first
      | (refine wpAnyH_take (i := 11) (v := undef) rfl (by kernel_rfl) (by kernel_rfl) (by kernel_rfl) (fun _ _ _ h => h) (Or.inr ⟨by rfl, rfl⟩) hS ?_)
      | (refine wpAnyH_take (i := 11) (v := ?_) rfl (by kernel_rfl) (by kernel_rfl) (by kernel_rfl) (fun _ _ _ h => h) (Or.inl ⟨by rfl, ?_⟩) hS ?_
         rotate_left 1
         · (intro w0 hSw; (try dsimp only at hSw); go_split_ands; go_simp; try with_reducible rfl))
      | fail
    try simp only [Act.put, List.getElem_toArray, List.getElem_cons_succ, List.getElem_cons_zero, List.setIfInBounds_toArray, List.set_cons_zero, List.set_cons_succ]
    first
      | (refine wpAnyH_take (i := 12) (v := undef) rfl (by kernel_rfl) (by kernel_rfl) (by kernel_rfl) (fun _ _ _ h => h) (Or.inr ⟨by rfl, rfl⟩) hS ?_)
      | (refine wpAnyH_take (i := 12) (v := ?_) rfl (by kernel_rfl) (by kernel_rfl) (by kernel_rfl) (fun _ _ _ h => h) (Or.inl ⟨by rfl, ?_⟩) hS ?_
         rotate_left 1
         · (intro w0 hSw; (try dsimp only at hSw); go_split_ands; go_simp; try with_reducible rfl))
      | fail
    try simp only [Act.put, List.getElem_toArray, List.getElem_cons_succ, List.getElem_cons_zero, List.setIfInBounds_toArray, List.set_cons_zero, List.set_cons_succ]
    refine wpAnyH_done (by kernel_rfl) ?_ _
    go_wp2_with fail
    go_ret
    exact ⟨rfl, HB13.out⟩
theorem less_law (A : Option Addr) (c : Nat) (l : List Tri) (at_ : Int) (p : Tri) (w : World) (hr : Kd.C kT w A l.length l) (hc : l.length ≤ c) (_hw : ∀ t ∈ l, t.wf) (_h1 : (Lit.int .i64 at_).wf = true) (_hp : p.wf) :
    Calls Try.prog 18 #[.slice A l.length c, .int .i64 at_, p.val] w fun e w' => e = .returned (.bool true) ∧ Below w.heap.size w w' := by
  by_cases h0 : l.length = 0
  · rw [h0]; exact less_none A c at_ p w
  by_cases hl : 60 < l.length
  · exact less_long A c at_ l p w hl
  · cases hm : mayB l with
    | true => exact less_yes A c at_ l p w hr hc (by omega) (by omega) hm
    | false => exact less_no A c at_ l p w hr (by omega) (by omega) hm
end Go.Proofs.Ytdijaobhijmknaa.Rg
