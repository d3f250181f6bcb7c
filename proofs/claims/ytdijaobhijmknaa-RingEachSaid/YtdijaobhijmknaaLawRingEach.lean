/- The law RingEach: each triple is found by all that it matches: by one, two, three of its numbers. -/
import Derived.Test.YtdijaobhijmknaaRingQ
import Derived.Test.YtdijaobhijmknaaOpenT
set_option linter.unusedSimpArgs false
set_option linter.unusedVariables false
namespace Go.Proofs.Ytdijaobhijmknaa.Rg
open Go Go.RowKit Go.Proofs.YtdijaobhijmknaaW.PrintWords Go.Proofs.YtdijaobhijmknaaW.PrintLast Go.Proofs.YtdijaobhijmknaaW.PrintMore
attribute [local go_sem] max2_int min2_int max_two min_two

theorem each_long (A : Option Addr) (c : Nat) (l : List Tri) (w : World) (hl : 60 < l.length) :
    Calls Try.prog 14 #[.slice A l.length c] w fun e w' => e = .returned (.bool true) ∧ Below w.heap.size w w' := by
  have hl2 : (60 : Int) < (l.length : Int) := by omega
  clear hl
  go_enter Try.func14, Try.ntmps14
  go_wp2_with fail
  go_ret
  exact ⟨rfl, Below.refl _ _⟩
theorem each_no (A : Option Addr) (c : Nat) (l : List Tri) (w : World) (hr : Kd.C kT w A l.length l) (hl : l.length ≤ 60) (hm : mayB l = false) :
    Calls Try.prog 14 #[.slice A l.length c] w fun e w' => e = .returned (.bool true) ∧ Below w.heap.size w w' := by
  have CM := Aside0.mk (refMay_any A c l w hr (by omega))
  rw [hm] at CM
  obtain ⟨n, hn⟩ : ∃ n, n = l.length := ⟨_, rfl⟩
  rw [← hn] at CM hl ⊢
  have hl2 : (n : Int) ≤ 60 := by omega
  clear hr hn hm hl
  go_enter Try.func14, Try.ntmps14
  go_wp2_with (first
    | (go_at_call 46; (with_reducible refine CM.out.mono ?_); rintro e w2 ⟨rfl, hb⟩; have HB2 := Aside0.mk hb; clear hb))
  go_ret
  exact ⟨rfl, HB2.out⟩
/-- Is the k-th bit one? -/
def bitB (k mk : Nat) : Bool := (mk / 2 ^ k) % 2 == 1
theorem bits_one (x : Nat) (hx : x < 8) : bits .and .i64 (x : Int) 1 = ((x % 2 : Nat) : Int) := by
  have : x = 0 ∨ x = 1 ∨ x = 2 ∨ x = 3 ∨ x = 4 ∨ x = 5 ∨ x = 6 ∨ x = 7 := by omega
  rcases this with rfl | rfl | rfl | rfl | rfl | rfl | rfl | rfl <;> decide
theorem bit_0 (mk : Nat) (h : mk < 8) : (bits .and .i64 (mk : Int) 1 == 1) = bitB 0 mk := by
  have : mk = 0 ∨ mk = 1 ∨ mk = 2 ∨ mk = 3 ∨ mk = 4 ∨ mk = 5 ∨ mk = 6 ∨ mk = 7 := by omega
  rcases this with rfl | rfl | rfl | rfl | rfl | rfl | rfl | rfl <;> decide
theorem bit_1 (mk : Nat) (h : mk < 8) : (bits .and .i64 ((mk : Int) / 2) 1 == 1) = bitB 1 mk := by
  have : mk = 0 ∨ mk = 1 ∨ mk = 2 ∨ mk = 3 ∨ mk = 4 ∨ mk = 5 ∨ mk = 6 ∨ mk = 7 := by omega
  rcases this with rfl | rfl | rfl | rfl | rfl | rfl | rfl | rfl <;> decide
theorem bit_2 (mk : Nat) (h : mk < 8) : (bits .and .i64 ((mk : Int) / 4) 1 == 1) = bitB 2 mk := by
  have : mk = 0 ∨ mk = 1 ∨ mk = 2 ∨ mk = 3 ∨ mk = 4 ∨ mk = 5 ∨ mk = 6 ∨ mk = 7 := by omega
  rcases this with rfl | rfl | rfl | rfl | rfl | rfl | rfl | rfl <;> decide
def pat (mk : Nat) (t : Tri) : Tri := ⟨if bitB 0 mk = true then t.s else 0, if bitB 1 mk = true then t.p else 0, if bitB 2 mk = true then t.o else 0⟩
theorem pat_match (mk : Nat) (t : Tri) : matchB (pat mk t) t = true := by
  rw [matchB_iff]
  unfold pat
  refine ⟨?_, ?_, ?_⟩
  · cases bitB 0 mk <;> simp
  · cases bitB 1 mk <;> simp
  · cases bitB 2 mk <;> simp
theorem pat_7 (t : Tri) : pat 7 t = t := rfl
theorem pat_0 (t : Tri) : pat 0 t = ⟨0, 0, 0⟩ := rfl
theorem take_mem {a : List Tri} {t z : Tri} {j : Nat} (hj : j < a.length) : t ∈ a.take (j + 1) ↔ t ∈ a.take j ∨ a.getD j z = t := by
  rw [take_snoc (z := z) hj, List.mem_append, List.mem_singleton]
  constructor
  · rintro (h | h)
    · exact .inl h
    · exact .inr h.symm
  · rintro (h | h)
    · exact .inl h
    · exact .inr h.symm
/-- Has it been found? -/
def Found (t : Tri) (l : List Tri) (fb : Bool) : Prop := fb = true ↔ t ∈ l
theorem Found.start (t : Tri) (l : List Tri) : Found t (l.take 0) false := by unfold Found; simp
theorem Found.keep {t u : Tri} {l1 l2 : List Tri} (h : Found t l1 true) (hk : t ∈ l2 ↔ t ∈ l1 ∨ u = t) : Found t l2 true := ⟨fun _ => hk.2 (.inl (h.1 rfl)), fun _ => rfl⟩
theorem Found.hit {t u : Tri} {l1 l2 : List Tri} (h : u = t) (hk : t ∈ l2 ↔ t ∈ l1 ∨ u = t) : Found t l2 true := ⟨fun _ => hk.2 (.inr h), fun _ => rfl⟩
theorem Found.miss {t u : Tri} {l1 l2 : List Tri} (h : Found t l1 false) (hu : ¬ u = t) (hk : t ∈ l2 ↔ t ∈ l1 ∨ u = t) : Found t l2 false := ⟨fun h => Bool.noConfusion h, fun h1 => (hk.1 h1).elim (fun h2 => h.2 h2) (fun h2 => absurd h2 hu)⟩
set_option maxRecDepth 100000 in
set_option maxHeartbeats 8000000 in
theorem each_yes (A : Option Addr) (c : Nat) (l : List Tri) (w : World) (hr : Kd.C kT w A l.length l) (hl : l.length ≤ 60) (hm : mayB l = true) :
    Calls Try.prog 14 #[.slice A l.length c] w fun e w' => e = .returned (.bool true) ∧ Below w.heap.size w w' := by
  obtain ⟨z, hz⟩ : ∃ z : Tri, z = ⟨0, 0, 0⟩ := ⟨_, rfl⟩
  have HL0 := hr
  have CM := Aside0.mk (refMay_any A c l w hr (by omega))
  rw [hm] at CM
  have CN := Aside0.mk (fun W (h : Kd.C kT W A l.length l) => new_ok A c l W h hm)
  have CA := Aside0.mk (fun r q W (h : IsRing W r l) => all_any (r := r) q l W h.l (by omega))
  have CC := Aside0.mk (fun r q W (h : IsRing W r l) => ring_count (r := r) q l W h.l (by omega))
  have HMEM : Aside0 (∀ i, i < l.length → l.getD i z ∈ l) := ⟨fun i hi => by
    have e1 : l.getD i z = l[i] := by simp [List.getD, hi]
    rw [e1]; exact List.getElem_mem hi⟩
  have HSELF : Aside0 (∀ t, t ∈ l → (allL l t).length = 1) := ⟨fun t ht => by rw [allL_self hm ht]; rfl⟩
  have HZERO : Aside0 ((allL l ⟨0, 0, 0⟩).length = l.length) := ⟨by rw [all_zero]⟩
  have HLEN := Aside0.mk (fun q => allL_len l q)
  have CK := Aside0.mk known_any
  have hG : Try.prog.eqGuardType Try.prog.depth 54 = false := by kernel_rfl
  obtain ⟨n, hn⟩ : ∃ n, n = l.length := ⟨_, rfl⟩
  rw [← hn] at CN CM hl HL0 HMEM HZERO HLEN ⊢
  have hl2 : (n : Int) ≤ 60 := by omega
  have HL0 := Aside0.mk HL0
  unfold Tri.val at *
  clear hr hn hm hz
  go_enter Try.func14, Try.ntmps14
  go_wp2_with (first
    | (go_at_call 46; (with_reducible refine CM.out.mono ?_); rintro e w1 ⟨rfl, hb⟩; have HB1 := Aside0.mk hb; have HL1 := Aside0.mk (Kd.C_below HL0.out hb); clear hb)
    | (go_at_call 45; (with_reducible refine (CN.out _ HL1.out).mono ?_); rintro e w2 ⟨r, rfl, hr, _, hb⟩; have HB2 := Aside0.mk (below_step HB1.out hb); have HL2 := Aside0.mk (Kd.C_below HL1.out hb); have HR2 := Aside0.mk hr; obtain ⟨rb, e5⟩ := hr.ptr; subst e5; clear hb hr))
  go_loopw [5] (fun s wr => ∃ i : Nat, i ≤ n ∧ s = .int .i64 i ∧ Aside0 (IsRing wr (.pointer (some ⟨rb, 0, none⟩)) l) ∧ Aside0 (Kd.C kT wr A n l) ∧ Aside0 (Below w.heap.size w wr)) (fun s _ => n - (intOf s).toNat)
  case atStart => exact ⟨0, by omega, rfl, HR2, HL2, HB2⟩
  case round =>
    clear HR2 HL2 HB2 HB1 HL1 HL0 CM CN
    obtain ⟨wa, rfl⟩ : ∃ x, x = wr := ⟨wr, rfl⟩
    obtain ⟨i, hi, rfl, HR, HL, HB⟩ := hrel
    by_cases hlt : i < n
    · have hi2 : (0 : Int) ≤ (i : Int) := by omega
      have hi3 : (i : Int) < (n : Int) := by omega
      obtain ⟨t, ht⟩ : ∃ t, t = l.getD i z := ⟨_, rfl⟩
      have htm := HMEM.out i hlt
      rw [← ht] at htm
      have HT := Aside0.mk ht
      have HTM := Aside0.mk htm
      clear ht htm
      go_wp2_with fail
      go_loopw [6] (fun s wr => ∃ mk : Nat, mk ≤ 8 ∧ s = .int .i64 mk ∧ Aside0 (IsRing wr (.pointer (some ⟨rb, 0, none⟩)) l) ∧ Aside0 (Kd.C kT wr A n l) ∧ Aside0 (Below w.heap.size w wr)) (fun s _ => 8 - (intOf s).toNat)
      case atStart => exact ⟨0, by omega, rfl, HR, HL, HB⟩
      case round =>
        clear HR HL HB
        obtain ⟨wb, rfl⟩ : ∃ x, x = wr := ⟨wr, rfl⟩
        obtain ⟨mk, hmk, rfl, HR, HL, HB⟩ := hrel
        by_cases hlk : mk < 8
        · obtain ⟨q0, hq0⟩ : ∃ q0, q0 = (pat mk t).s := ⟨_, rfl⟩
          obtain ⟨q1, hq1⟩ : ∃ q1, q1 = (pat mk t).p := ⟨_, rfl⟩
          obtain ⟨q2, hq2⟩ : ∃ q2, q2 = (pat mk t).o := ⟨_, rfl⟩
          have HQ : Aside0 (pat mk t = ⟨q0, q1, q2⟩) := ⟨by rw [hq0, hq1, hq2]⟩
          have HQ0 := Aside0.mk hq0
          have HQ1 := Aside0.mk hq1
          have HQ2 := Aside0.mk hq2
          have hb0 := bit_0 mk hlk
          have hb1 := bit_1 mk hlk
          have hb2 := bit_2 mk hlk
          have HBb : Aside0 ((bits .and .i64 (mk : Int) 1 == 1) = bitB 0 mk ∧ (bits .and .i64 ((mk : Int) / 2) 1 == 1) = bitB 1 mk ∧ (bits .and .i64 ((mk : Int) / 4) 1 == 1) = bitB 2 mk) := ⟨hb0, hb1, hb2⟩
          clear hb0 hb1 hb2 hq0 hq1 hq2
          go_wp2_with fail
          go_loopw [8] (fun s wr => ∃ k : Nat, k ≤ 3 ∧ s = .int .i64 k ∧ Aside0 (wr.heap[wb.heap.size]? = some (.cells #[.int .i64 (if 1 ≤ k then q0 else 0), .int .i64 (if 2 ≤ k then q1 else 0), .int .i64 (if 3 ≤ k then q2 else 0)] 54 (0, 0))) ∧ Aside0 (Below wb.heap.size wb wr)) (fun s _ => 3 - (intOf s).toNat)
          case atStart => exact ⟨0, by omega, rfl, ⟨blk_new wb _⟩, ⟨below_alloc (Below.refl _ _) _⟩⟩
          case round =>
            obtain ⟨wc, rfl⟩ : ∃ x, x = wr := ⟨wr, rfl⟩
            obtain ⟨k, hk, rfl, HK, HBK⟩ := hrel
            obtain ⟨ad, rfl, k0, k1, k2⟩ := at3_of (Kd.C_below HL.out HBK.out) i hlt z
            rw [← HT.out] at k0 k1 k2
            have fz : ∀ o, wc.frozen? ⟨wb.heap.size, o, none⟩ = false := fun o => blk_frozen HK.out o
            have h3 : k = 0 ∨ k = 1 ∨ k = 2 ∨ k = 3 := by omega
            rcases h3 with rfl | rfl | rfl | rfl
            · rw [show ((0 : Nat) : Int) = 0 from rfl]
              have f0 := fz 0
              have c0 := blk_cell HK.out 0
              simp at c0
              have hbit := HBb.out.1
              cases hbb : bitB 0 mk with
              | true =>
                rw [hbb] at hbit
                have hqe : q0 = t.s := by rw [HQ0.out]; unfold pat; rw [hbb]; rfl
                have HQE := Aside0.mk hqe
                clear hbb hqe fz
                go_wp2_with fail
                go_roundw
                case rel => exact ⟨1, by omega, rfl, ⟨by have := blk_set HK.out 0 (.int .i64 t.s); rw [this]; simp [HQE.out]⟩, ⟨HBK.out.setCell (Nat.le_refl _) _⟩⟩
                case measure => simp [intOf]
              | false =>
                rw [hbb] at hbit
                have hqe : q0 = 0 := by rw [HQ0.out]; unfold pat; rw [hbb]; rfl
                have HQE := Aside0.mk hqe
                clear hbb hqe fz
                go_wp2_with fail
                go_roundw
                case rel => exact ⟨1, by omega, rfl, ⟨by rw [HK.out]; simp [HQE.out]⟩, HBK⟩
                case measure => simp [intOf]
            · rw [show ((1 : Nat) : Int) = 1 from rfl]
              have f0 := fz 1
              have c0 := blk_cell HK.out 1
              simp at c0
              have hbit := HBb.out.2.1
              cases hbb : bitB 1 mk with
              | true =>
                rw [hbb] at hbit
                have hqe : q1 = t.p := by rw [HQ1.out]; unfold pat; rw [hbb]; rfl
                have HQE := Aside0.mk hqe
                clear hbb hqe fz
                go_wp2_with fail
                go_roundw
                case rel => exact ⟨2, by omega, rfl, ⟨by have := blk_set HK.out 1 (.int .i64 t.p); rw [this]; simp [HQE.out]⟩, ⟨HBK.out.setCell (Nat.le_refl _) _⟩⟩
                case measure => simp [intOf]
              | false =>
                rw [hbb] at hbit
                have hqe : q1 = 0 := by rw [HQ1.out]; unfold pat; rw [hbb]; rfl
                have HQE := Aside0.mk hqe
                clear hbb hqe fz
                go_wp2_with fail
                go_roundw
                case rel => exact ⟨2, by omega, rfl, ⟨by rw [HK.out]; simp [HQE.out]⟩, HBK⟩
                case measure => simp [intOf]
            · rw [show ((2 : Nat) : Int) = 2 from rfl]
              have f0 := fz 2
              have c0 := blk_cell HK.out 2
              simp at c0
              have hbit := HBb.out.2.2
              cases hbb : bitB 2 mk with
              | true =>
                rw [hbb] at hbit
                have hqe : q2 = t.o := by rw [HQ2.out]; unfold pat; rw [hbb]; rfl
                have HQE := Aside0.mk hqe
                clear hbb hqe fz
                go_wp2_with fail
                go_roundw
                case rel => exact ⟨3, by omega, rfl, ⟨by have := blk_set HK.out 2 (.int .i64 t.o); rw [this]; simp [HQE.out]⟩, ⟨HBK.out.setCell (Nat.le_refl _) _⟩⟩
                case measure => simp [intOf]
              | false =>
                rw [hbb] at hbit
                have hqe : q2 = 0 := by rw [HQ2.out]; unfold pat; rw [hbb]; rfl
                have HQE := Aside0.mk hqe
                clear hbb hqe fz
                go_wp2_with fail
                go_roundw
                case rel => exact ⟨3, by omega, rfl, ⟨by rw [HK.out]; simp [HQE.out]⟩, HBK⟩
                case measure => simp [intOf]
            · rw [show ((3 : Nat) : Int) = 3 from rfl]
              have y0 : wc.cell? ⟨wb.heap.size, 0, none⟩ = some (.int .i64 q0) := by rw [blk_cell HK.out 0]; rfl
              have y1 : wc.cell? ⟨wb.heap.size, 1, none⟩ = some (.int .i64 q1) := by rw [blk_cell HK.out 1]; rfl
              have y2 : wc.cell? ⟨wb.heap.size, 2, none⟩ = some (.int .i64 q2) := by rw [blk_cell HK.out 2]; rfl
              have HY : Aside0 (Boxed wc wb.heap.size ⟨q0, q1, q2⟩) := ⟨⟨y0, y1, y2⟩⟩
              have HR1 := Aside0.mk (HR.out.below HBK.out)
              have HL1 := Aside0.mk (Kd.C_below HL.out HBK.out)
              have HB1 := Aside0.mk (below_two' HB.out HBK.out)
              obtain ⟨a, ha⟩ : ∃ a, a = allL l ⟨q0, q1, q2⟩ := ⟨_, rfl⟩
              have CAQ : Aside0 (∀ r W, IsRing W r l → Calls Try.prog 52 #[r, .agg #[.int .i64 q0, .int .i64 q1, .int .i64 q2]] W (RowP W a)) := ⟨fun r W h => by rw [ha]; exact CA.out r ⟨q0, q1, q2⟩ W h⟩
              obtain ⟨m, hmm⟩ : ∃ m, m = a.length := ⟨_, rfl⟩
              have CCQ : Aside0 (∀ r W, IsRing W r l → Calls Try.prog 50 #[r, .agg #[.int .i64 q0, .int .i64 q1, .int .i64 q2]] W fun e w' => e = .returned (.int .i64 (m : Int)) ∧ Below W.heap.size W w') := ⟨fun r W h => by rw [hmm, ha]; exact CC.out r ⟨q0, q1, q2⟩ W h⟩
              have HM := Aside0.mk hmm
              have HIN : Aside0 (t ∈ a) := ⟨by rw [ha, ← HQ.out]; exact mem_allL.2 ⟨HTM.out, pat_match mk t⟩⟩
              have hm60 : m ≤ n := by rw [hmm, ha]; exact HLEN.out _
              have HE7 : Aside0 (mk = 7 → m = 1) := ⟨fun h => by rw [hmm, ha, ← HQ.out, h, pat_7]; exact HSELF.out t HTM.out⟩
              have HE0 : Aside0 (mk = 0 → m = n) := ⟨fun h => by rw [hmm, ha, ← HQ.out, h, pat_0]; exact HZERO.out⟩
              clear HQ HQ0 HQ1 HQ2 HBb HK fz k0 k1 k2 ha hmm HR HL HB HBK
              go_wp2_with (first
                | (go_at_call 52; (with_reducible refine (CAQ.out _ _ HR1.out).mono ?_); rintro e w3 hw; obtain ⟨A3, c3, rfl, hv, hb⟩ := row_len hw; have HA3 := Aside0.mk (Bs.reads_n hv).2.2; rw [← HM.out] at HA3; have HB3 := Aside0.mk (below_step HB1.out hb); have HY3 := Aside0.mk (HY.out.below hb); have HR3 := Aside0.mk (HR1.out.below hb); have HL3 := Aside0.mk (Kd.C_below HL1.out hb); clear hw hv hb y0 y1 y2))
              rw [← HM.out]
              go_loopw [10, 11] (fun s10 s11 wr => ∃ (j : Nat) (fb : Bool), j ≤ m ∧ s11 = .int .i64 j ∧ s10 = .bool fb ∧ Aside0 (Found t (a.take j) fb) ∧ Aside0 (Below w3.heap.size w3 wr)) (fun _ s _ => m - (intOf s).toNat)
              case atStart => exact ⟨0, false, by omega, rfl, rfl, ⟨Found.start t a⟩, ⟨Below.refl _ _⟩⟩
              case round =>
                obtain ⟨wd, rfl⟩ : ∃ x, x = wr := ⟨wr, rfl⟩
                obtain ⟨j, fb, hj, rfl, rfl, HF, HBD⟩ := hrel
                by_cases hlj : j < m
                · obtain ⟨ad2, rfl, u0, u1, u2⟩ := at3_of (Kd.C_below HA3.out HBD.out) j hlj z
                  obtain ⟨ad3, e3, l0, l1, l2⟩ := at3_of (Kd.C_below HL3.out HBD.out) i hlt z
                  injection e3 with e3
                  subst e3
                  obtain ⟨u, hu⟩ : ∃ u, u = a.getD j z := ⟨_, rfl⟩
                  rw [← hu] at u0 u1 u2
                  rw [← HT.out] at l0 l1 l2
                  have hj2 : (0 : Int) ≤ (j : Int) := by omega
                  have hj3 : (j : Int) < (m : Int) := by omega
                  have htk := take_mem (a := a) (t := t) (z := z) (j := j) (by rw [← HM.out]; exact hlj)
                  rw [← hu] at htk
                  have HTK := Aside0.mk htk
                  have keq := fun W => equal_tri u t W
                  clear hu htk HIN HE7 HE0 CAQ CCQ CA CC CK HY3 HR3 HL3 HB3 HA3 HSELF HZERO HLEN HMEM HTM
                  cases fb with
                  | true =>
                    clear keq
                    go_wp2_with fail
                    go_quiet (fail)
                    go_wp2_with fail
                    go_roundw
                    case rel => exact ⟨j + 1, true, by omega, by go_num, rfl, ⟨HF.out.keep HTK.out⟩, ⟨pw_below_drewN HBD.out _⟩⟩
                    case measure => simp [intOf]; omega
                  | false =>
                    by_cases hc : u = t
                    · have hd : decide (u = t) = true := decide_eq_true hc
                      simp only [hd] at keq
                      have HC := Aside0.mk hc
                      clear hc hd
                      go_wp2_with fail
                      go_quiet (fail)
                      go_wp2_with fail
                      go_roundw
                      case rel => exact ⟨j + 1, true, by omega, by go_num, rfl, ⟨Found.hit HC.out HTK.out⟩, ⟨pw_below_drewN HBD.out _⟩⟩
                      case measure => simp [intOf]; omega
                    · have hd : decide (u = t) = false := decide_eq_false hc
                      simp only [hd] at keq
                      have HC := Aside0.mk hc
                      clear hc hd
                      go_wp2_with fail
                      go_quiet (fail)
                      go_wp2_with fail
                      go_roundw
                      case rel => exact ⟨j + 1, false, by omega, by go_num, rfl, ⟨HF.out.miss HC.out HTK.out⟩, ⟨pw_below_drewN HBD.out _⟩⟩
                      case measure => simp [intOf]; omega
                · have hjm : j = m := by omega
                  subst hjm
                  have hfb : fb = true := HF.out.2 (by rw [HM.out, List.take_length]; exact HIN.out)
                  subst hfb
                  have HY4 := Aside0.mk (HY3.out.below HBD.out)
                  have HR4 := Aside0.mk (HR3.out.below HBD.out)
                  have HL4 := Aside0.mk (Kd.C_below HL3.out HBD.out)
                  have HB4 := Aside0.mk (below_two' HB3.out HBD.out)
                  obtain ⟨y0, y1, y2⟩ := HY4.out
                  have hcase : (((mk : Int) == 7) = true ∧ ((j : Int) != 1) = false ∧ ((mk : Int) == 0) = false ∧ ((j : Int) != (n : Int)) = ((j : Int) != (n : Int))) ∨ (((mk : Int) == 7) = false ∧ ((mk : Int) == 0) = true ∧ ((j : Int) != (n : Int)) = false) ∨ (((mk : Int) == 7) = false ∧ ((mk : Int) == 0) = false) := by
                    by_cases h7 : mk = 7
                    · exact .inl ⟨by simp [h7], by rw [HE7.out h7]; rfl, by simp [h7], rfl⟩
                    · by_cases h0 : mk = 0
                      · exact .inr (.inl ⟨by simp [h0], by simp [h0], by rw [HE0.out h0]; simp⟩)
                      · exact .inr (.inr ⟨by simp; omega, by simp; omega⟩)
                  clear HE7 HE0 HF HIN HY3 HR3 HL3 HB3 HA3 HBD
                  rcases hcase with ⟨g1, g2, g3, _⟩ | ⟨g1, g2, g3⟩ | ⟨g1, g2⟩
                  all_goals
                    go_wp2_with (first
                      | (go_at_call 50; (with_reducible refine (CCQ.out _ _ HR4.out).mono ?_); rintro e w5 ⟨rfl, hb⟩; have HB5 := Aside0.mk (below_step HB4.out hb); have HR5 := Aside0.mk (HR4.out.below hb); have HL5 := Aside0.mk (Kd.C_below HL4.out hb); clear hb))
                    go_roundw
                    case rel => exact ⟨mk + 1, by omega, by go_num, HR5, HL5, HB5⟩
                    case measure => simp [intOf]; omega
        · have hmk8 : mk = 8 := by omega
          subst hmk8
          rw [show ((8 : Nat) : Int) = 8 from rfl]
          go_wp2_with fail
          go_roundw
          case rel => exact ⟨i + 1, by omega, by go_num, HR, HL, HB⟩
          case measure => simp [intOf]; omega
    · have hin : i = n := by omega
      subst hin
      go_wp2_with (first
        | (go_at_call 47; (with_reducible refine (CK.out _).mono ?_); rintro e w7 ⟨rfl, hb⟩; have HB7 := Aside0.mk (below_step HB.out hb); clear hb))
      go_ret
      exact ⟨rfl, HB7.out⟩
theorem each_law (A : Option Addr) (c : Nat) (l : List Tri) (w : World) (hr : Kd.C kT w A l.length l) (_hc : l.length ≤ c) (_hw : ∀ t ∈ l, t.wf) :
    Calls Try.prog 14 #[.slice A l.length c] w fun e w' => e = .returned (.bool true) ∧ Below w.heap.size w w' := by
  by_cases hl : 60 < l.length
  · exact each_long A c l w hl
  · cases hm : mayB l with
    | true => exact each_yes A c l w hr (by omega) hm
    | false => exact each_no A c l w hr (by omega) hm
end Go.Proofs.Ytdijaobhijmknaa.Rg
