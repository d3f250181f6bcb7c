/- The walks of the reference's less and May. -/
import Derived.Test.YtdijaobhijmknaaRingA
import Derived.StillTailTactics
set_option linter.unusedSimpArgs false
set_option linter.unusedVariables false
namespace Go.Proofs.Ytdijaobhijmknaa.Rg
open Go Go.RowKit Go.Proofs.YtdijaobhijmknaaW.PrintWords Go.Proofs.YtdijaobhijmknaaW.PrintLast Go.Proofs.YtdijaobhijmknaaW.PrintMore
attribute [local go_sem] max2_int min2_int max_two min_two

/-- The first i parts are one. -/
def eqP (a b : Tri) (i : Nat) : Prop := (0 < i → a.s = b.s) ∧ (1 < i → a.p = b.p) ∧ (2 < i → a.o = b.o)
theorem eq_step_0 {a b : Tri} (h : eqP a b 0) (g : a.s = b.s) : eqP a b 1 := ⟨fun _ => g, fun h => by omega, fun h => by omega⟩
theorem eq_step_1 {a b : Tri} (h : eqP a b 1) (g : a.p = b.p) : eqP a b 2 := ⟨fun _ => h.1 (by omega), fun _ => g, fun h => by omega⟩
theorem eq_step_2 {a b : Tri} (h : eqP a b 2) (g : a.o = b.o) : eqP a b 3 := ⟨fun _ => h.1 (by omega), fun _ => h.2.1 (by omega), fun _ => g⟩
theorem less_at_0 {a b : Tri} (h : eqP a b 0) (g : ¬ a.s = b.s) : lessB a b = decide (a.s < b.s) := by simp [lessB, g]
theorem less_at_1 {a b : Tri} (h : eqP a b 1) (g : ¬ a.p = b.p) : lessB a b = decide (a.p < b.p) := by simp [lessB, h.1 (by omega), g]
theorem less_at_2 {a b : Tri} (h : eqP a b 2) (g : ¬ a.o = b.o) : lessB a b = decide (a.o < b.o) := by simp [lessB, h.1 (by omega), h.2.1 (by omega), g]
theorem less_at_3 {a b : Tri} (h : eqP a b 3) : lessB a b = false := by simp [lessB, h.1 (by omega), h.2.1 (by omega), h.2.2 (by omega)]
set_option maxRecDepth 100000 in
set_option maxHeartbeats 1000000 in
theorem less_any (a b : Tri) (w : World) :
    Calls Try.prog 70 #[a.val, b.val] w fun e w' => e = .returned (.bool (lessB a b)) ∧ Below w.heap.size w w' := by
  obtain ⟨b1, b2, b3⟩ := boxes w a b 54
  have HB1 := Aside0.mk b1
  have HB2 := Aside0.mk b2
  have HB3 := Aside0.mk b3
  clear b1 b2 b3
  unfold Tri.val
  go_enter Try.func70, Try.ntmps70
  go_wp2_with fail
  go_loopw [5] (fun x wr => ∃ i : Nat, i ≤ 3 ∧ x = .int .i64 i ∧ Aside0 (eqP a b i) ∧ Aside0 (Boxed wr w.heap.size a) ∧ Aside0 (Boxed wr (w.heap.size + 1) b) ∧ Aside0 (Below w.heap.size w wr)) (fun x _ => 3 - (intOf x).toNat)
  case atStart => exact ⟨0, by omega, rfl, ⟨⟨fun h => by omega, fun h => by omega, fun h => by omega⟩⟩, HB1, HB2, HB3⟩
  case round =>
    clear HB1 HB2 HB3
    obtain ⟨i, hi, rfl, HE, HP, HT, HB⟩ := hrel
    obtain ⟨p0, p1, p2⟩ := HP.out
    obtain ⟨t0, t1, t2⟩ := HT.out
    by_cases hlt : i < 3
    · have h3 : i = 0 ∨ i = 1 ∨ i = 2 := by omega
      rcases h3 with rfl | rfl | rfl
      · by_cases hc : a.s = b.s
        · have c1 : (a.s != b.s) = false := by simp [hc]
          have HC := Aside0.mk hc
          clear hc
          go_wp2_with fail
          go_quiet (fail)
          go_wp2_with fail
          go_roundw
          case rel => exact ⟨1, by omega, rfl, ⟨eq_step_0 HE.out HC.out⟩, ⟨HP.out.drewN _⟩, ⟨HT.out.drewN _⟩, ⟨pw_below_drewN HB.out _⟩⟩
          case measure => simp [intOf]
        · have c1 : (a.s != b.s) = true := by simp [hc]
          have HN := Aside0.mk (less_at_0 HE.out hc)
          clear hc
          go_wp2_with fail
          go_quiet (fail)
          go_wp2_with fail
          go_quiet (fail)
          go_wp2_with fail
          go_ret
          exact ⟨ret_bool HN.out.symm, pw_below_drewN (pw_below_drewN HB.out _) _⟩
      · by_cases hc : a.p = b.p
        · have c1 : (a.p != b.p) = false := by simp [hc]
          have HC := Aside0.mk hc
          clear hc
          go_wp2_with fail
          go_quiet (fail)
          go_wp2_with fail
          go_roundw
          case rel => exact ⟨2, by omega, rfl, ⟨eq_step_1 HE.out HC.out⟩, ⟨HP.out.drewN _⟩, ⟨HT.out.drewN _⟩, ⟨pw_below_drewN HB.out _⟩⟩
          case measure => simp [intOf]
        · have c1 : (a.p != b.p) = true := by simp [hc]
          have HN := Aside0.mk (less_at_1 HE.out hc)
          clear hc
          go_wp2_with fail
          go_quiet (fail)
          go_wp2_with fail
          go_quiet (fail)
          go_wp2_with fail
          go_ret
          exact ⟨ret_bool HN.out.symm, pw_below_drewN (pw_below_drewN HB.out _) _⟩
      · by_cases hc : a.o = b.o
        · have c1 : (a.o != b.o) = false := by simp [hc]
          have HC := Aside0.mk hc
          clear hc
          go_wp2_with fail
          go_quiet (fail)
          go_wp2_with fail
          go_roundw
          case rel => exact ⟨3, by omega, rfl, ⟨eq_step_2 HE.out HC.out⟩, ⟨HP.out.drewN _⟩, ⟨HT.out.drewN _⟩, ⟨pw_below_drewN HB.out _⟩⟩
          case measure => simp [intOf]
        · have c1 : (a.o != b.o) = true := by simp [hc]
          have HN := Aside0.mk (less_at_2 HE.out hc)
          clear hc
          go_wp2_with fail
          go_quiet (fail)
          go_wp2_with fail
          go_quiet (fail)
          go_wp2_with fail
          go_ret
          exact ⟨ret_bool HN.out.symm, pw_below_drewN (pw_below_drewN HB.out _) _⟩
    · have h3 : i = 3 := by omega
      subst h3
      have HN := Aside0.mk (less_at_3 HE.out)
      go_wp2_with fail
      go_ret
      exact ⟨ret_bool HN.out.symm, HB.out⟩
/-- A triple that lies at q. -/
def At3 (w : World) (q : Addr) (t : Tri) : Prop := w.cell? q = some (.int .i64 t.s) ∧ w.cell? ⟨q.block, q.off + 1, none⟩ = some (.int .i64 t.p) ∧ w.cell? ⟨q.block, q.off + 2, none⟩ = some (.int .i64 t.o)
theorem add_more (a : Addr) (k j : Nat) (hj : j ≠ 0) : a.add (k + j) = ⟨(a.add k).block, (a.add k).off + j, none⟩ := by
  unfold Addr.add
  rw [if_neg (by omega)]
  by_cases c : k = 0
  · subst c; simp
  · rw [if_neg c]; simp [Nat.add_assoc]
theorem at3_of {w : World} {A : Option Addr} {ts : List Tri} {n : Nat} (h : Kd.C kT w A n ts) (i : Nat) (hi : i < n) (z : Tri) : ∃ ad, A = some ad ∧ At3 w (ad.add (i * 3)) (ts.getD i z) := by
  obtain ⟨ad, c, h1, h2, h3, h4⟩ := Kd.C_get h z i (by omega) (by omega)
  have e : ((i : Int)).toNat = i := by omega
  rw [e] at h3 h4
  have h5 : c = (ts.getD i z).cells := h3
  subst h5
  refine ⟨ad, h1, h4 0 _ rfl, ?_, ?_⟩
  · have := h4 1 _ rfl
    rwa [show i * kT.sz + 1 = i * 3 + 1 from rfl, add_more _ _ _ (by decide)] at this
  · have := h4 2 _ rfl
    rwa [show i * kT.sz + 2 = i * 3 + 2 from rfl, add_more _ _ _ (by decide)] at this
theorem At3.below {w w1 : World} {q : Addr} {t : Tri} (h : At3 w q t) (hb : Below w.heap.size w w1) : At3 w1 q t := by
  have hl := World.block_lt_of_cell? w _ h.1
  exact ⟨(hb.cell (p := q) hl).trans h.1, (hb.cell (p := ⟨q.block, q.off + 1, none⟩) hl).trans h.2.1, (hb.cell (p := ⟨q.block, q.off + 2, none⟩) hl).trans h.2.2⟩
theorem At3.drewN {w : World} {q : Addr} {t : Tri} (h : At3 w q t) (n : Nat) : At3 (w.drewN n) q t := h
/-- The first k parts may be. -/
def okP (t : Tri) (k : Nat) : Prop := (0 < k → 1 ≤ t.s ∧ t.s ≤ 1000) ∧ (1 < k → 1 ≤ t.p ∧ t.p ≤ 1000) ∧ (2 < k → 1 ≤ t.o ∧ t.o ≤ 1000)
theorem okT_iff (t : Tri) : okT t = true ↔ (1 ≤ t.s ∧ t.s ≤ 1000) ∧ (1 ≤ t.p ∧ t.p ≤ 1000) ∧ (1 ≤ t.o ∧ t.o ≤ 1000) := by
  unfold okT; simp only [Bool.and_eq_true, decide_eq_true_eq]; constructor <;> rintro ⟨h, h2⟩ <;> omega
theorem ok_0 {t : Tri} (h : okT t = true) : 1 ≤ t.s ∧ t.s ≤ 1000 := ((okT_iff t).1 h).1
theorem ok_1 {t : Tri} (h : okT t = true) : 1 ≤ t.p ∧ t.p ≤ 1000 := ((okT_iff t).1 h).2.1
theorem ok_2 {t : Tri} (h : okT t = true) : 1 ≤ t.o ∧ t.o ≤ 1000 := ((okT_iff t).1 h).2.2
/-- Triples that rise and may be: the first n of them. -/
def MayTo (ts : List Tri) (n : Nat) : Prop := ∀ i, i < n → ∀ z : Tri, okT (ts.getD i z) = true ∧ (0 < i → lessB (ts.getD (i - 1) z) (ts.getD i z) = true)
/-- May triples be a Ring's? -/
def mayB (ts : List Tri) : Bool := mayL ts && decide (ts.length ≤ 100)
theorem mayL_iff : ∀ ts : List Tri, mayL ts = true ↔ MayTo ts ts.length
  | [] => ⟨fun _ i hi => by simp at hi, fun _ => rfl⟩
  | [a] => by
    rw [mayL]
    constructor
    · intro h i hi z
      have : i = 0 := by simpa using hi
      subst this
      exact ⟨h, fun h => by omega⟩
    · intro h; exact (h 0 (by simp) a).1
  | a :: b :: l => by
    rw [mayL]
    simp only [Bool.and_eq_true]
    constructor
    · rintro ⟨⟨h1, h2⟩, h3⟩ i hi z
      have ih := (mayL_iff (b :: l)).1 h3
      cases i with
      | zero => exact ⟨h1, fun h => by omega⟩
      | succ i =>
        obtain ⟨g1, g2⟩ := ih i (by simpa using hi) z
        refine ⟨by simpa using g1, fun _ => ?_⟩
        cases i with
        | zero => simpa using h2
        | succ i => simpa using g2 (by omega)
    · intro h
      refine ⟨⟨(h 0 (by simp) a).1, ?_⟩, (mayL_iff (b :: l)).2 ?_⟩
      · have := (h 1 (by simp) a).2 (by omega)
        simpa using this
      · intro i hi z
        obtain ⟨g1, g2⟩ := h (i + 1) (by simpa using hi) z
        refine ⟨by simpa using g1, fun h0 => ?_⟩
        obtain ⟨j, rfl⟩ : ∃ j, i = j + 1 := ⟨i - 1, by omega⟩
        have := g2 (by omega)
        simpa using this
theorem may_no {ts : List Tri} {i : Nat} {z : Tri} (hi : i < ts.length) (h : ¬ okT (ts.getD i z) = true ∨ (0 < i ∧ ¬ lessB (ts.getD (i - 1) z) (ts.getD i z) = true)) : mayB ts = false := by
  unfold mayB
  have : ¬ mayL ts = true := by
    rw [mayL_iff]
    intro g
    obtain ⟨g1, g2⟩ := g i hi z
    rcases h with h | ⟨h0, h⟩
    · exact h g1
    · exact h (g2 h0)
  simp [this]
theorem may_yes {ts : List Tri} (h : MayTo ts ts.length) : mayB ts = decide (ts.length ≤ 100) := by
  unfold mayB
  rw [(mayL_iff ts).2 h]; simp
theorem may_step {ts : List Tri} {i : Nat} {z : Tri} (hi : i < ts.length) (h : MayTo ts i) (h1 : okT (ts.getD i z) = true) (h2 : 0 < i → lessB (ts.getD (i - 1) z) (ts.getD i z) = true) : MayTo ts (i + 1) := by
  intro j hj z'
  by_cases c : j < i
  · exact h j c z'
  · have : j = i := by omega
    subst this
    have e : ∀ k, k < ts.length → ts.getD k z' = ts.getD k z := by
      intro k hk
      rw [List.getD_eq_getElem?_getD, List.getD_eq_getElem?_getD, List.getElem?_eq_getElem hk]; rfl
    rw [e j hi, e (j - 1) (by omega)]
    exact ⟨h1, h2⟩
set_option maxRecDepth 100000 in
set_option maxHeartbeats 4000000 in
theorem refMay_any (A : Option Addr) (c : Nat) (ts : List Tri) (w : World) (hr : Kd.C kT w A ts.length ts) (hl : ts.length ≤ 1000) :
    Calls Try.prog 46 #[.slice A ts.length c] w fun e w' => e = .returned (.bool (mayB ts)) ∧ Below w.heap.size w w' := by
  have HB3 := Aside0.mk (Below.refl w.heap.size w)
  obtain ⟨z, hz⟩ : ∃ z : Tri, z = ⟨0, 0, 0⟩ := ⟨_, rfl⟩
  have HNO0 := Aside0.mk (fun i (hi : i < ts.length) (h : ¬ okT (ts.getD i z) = true ∨ (0 < i ∧ ¬ lessB (ts.getD (i - 1) z) (ts.getD i z) = true)) => may_no hi h)
  have HYES := Aside0.mk (fun h => may_yes (ts := ts) h)
  obtain ⟨n, hn⟩ : ∃ n, n = ts.length := ⟨_, rfl⟩
  have HR := Aside0.mk hr
  rw [← hn] at HR hl HNO0 HYES ⊢
  have HLN : Aside0 (∀ {i}, i < n → i < ts.length) := ⟨fun h => by omega⟩
  clear hr hz hn
  obtain ⟨V, hV⟩ : ∃ V, V = mayB ts := ⟨_, rfl⟩
  rw [← hV] at HNO0 HYES ⊢
  clear hV
  go_enter Try.func46, Try.ntmps46
  go_wp2_with fail
  go_loopw [3] (fun x wr => ∃ i : Nat, i ≤ n ∧ x = .int .i64 i ∧ Aside0 (MayTo ts i) ∧ Aside0 (Below w.heap.size w wr)) (fun x _ => n - (intOf x).toNat)
  case atStart => exact ⟨0, by omega, rfl, ⟨fun i hi => by omega⟩, HB3⟩
  case round =>
    clear HB3
    obtain ⟨i, hi, rfl, HM, HB⟩ := hrel
    by_cases hlt : i < n
    · have HC := Aside0.mk (Kd.C_below HR.out HB.out)
      obtain ⟨ad, rfl, k0, k1, k2⟩ := at3_of HC.out i hlt z
      have HP := Aside0.mk (fun h0 : 0 < i => at3_of HC.out (i - 1) (by omega) z)
      have HNO := Aside0.mk (fun h => HNO0.out i hlt (.inl h))
      have HNO2 := Aside0.mk (fun h => HNO0.out i hlt (.inr h))
      have HMS := Aside0.mk (fun (h1 : okT (ts.getD i z) = true) (h2 : 0 < i → lessB (ts.getD (i - 1) z) (ts.getD i z) = true) => may_step (HLN.out hlt) HM.out h1 h2)
      obtain ⟨t, ht⟩ : ∃ t, t = ts.getD i z := ⟨_, rfl⟩
      obtain ⟨u, hu⟩ : ∃ u, u = ts.getD (i - 1) z := ⟨_, rfl⟩
      rw [← ht] at k0 k1 k2 HNO HNO2 HMS
      rw [← hu] at HP HNO2 HMS
      clear ht hu HNO0
      go_wp2_with fail
      go_loopw [4] (fun x wx => ∃ k : Nat, k ≤ 3 ∧ x = .int .i64 k ∧ Aside0 (okP t k) ∧ wr = wx) (fun x _ => 3 - (intOf x).toNat)
      case atStart => exact ⟨0, by omega, rfl, ⟨⟨fun h => by omega, fun h => by omega, fun h => by omega⟩⟩, rfl⟩
      case round =>
        obtain ⟨k, hk, rfl, HK, rfl⟩ := hrel
        have h3 : k = 0 ∨ k = 1 ∨ k = 2 ∨ k = 3 := by omega
        rcases h3 with rfl | rfl | rfl | rfl
        · by_cases hc : 1 ≤ t.s ∧ t.s ≤ 1000
          · obtain ⟨c1, c2⟩ := hc
            go_wp2_with fail
            go_roundw
            case rel => exact ⟨1, by omega, rfl, ⟨by unfold okP at *; have := HK.out; omega⟩, trivial⟩
            case measure => simp [intOf]
          · have HV := Aside0.mk (HNO.out (fun h => hc (ok_0 h)))
            have hc' : t.s < 1 ∨ (1 ≤ t.s ∧ 1000 < t.s) := by omega
            clear hc
            rcases hc' with c1 | ⟨c1, c2⟩
            all_goals
              go_wp2_with fail
              go_ret
              exact ⟨ret_bool HV.out.symm, HB.out⟩
        · by_cases hc : 1 ≤ t.p ∧ t.p ≤ 1000
          · obtain ⟨c1, c2⟩ := hc
            go_wp2_with fail
            go_roundw
            case rel => exact ⟨2, by omega, rfl, ⟨by unfold okP at *; have := HK.out; omega⟩, trivial⟩
            case measure => simp [intOf]
          · have HV := Aside0.mk (HNO.out (fun h => hc (ok_1 h)))
            have hc' : t.p < 1 ∨ (1 ≤ t.p ∧ 1000 < t.p) := by omega
            clear hc
            rcases hc' with c1 | ⟨c1, c2⟩
            all_goals
              go_wp2_with fail
              go_ret
              exact ⟨ret_bool HV.out.symm, HB.out⟩
        · by_cases hc : 1 ≤ t.o ∧ t.o ≤ 1000
          · obtain ⟨c1, c2⟩ := hc
            go_wp2_with fail
            go_roundw
            case rel => exact ⟨3, by omega, rfl, ⟨by unfold okP at *; have := HK.out; omega⟩, trivial⟩
            case measure => simp [intOf]
          · have HV := Aside0.mk (HNO.out (fun h => hc (ok_2 h)))
            have hc' : t.o < 1 ∨ (1 ≤ t.o ∧ 1000 < t.o) := by omega
            clear hc
            rcases hc' with c1 | ⟨c1, c2⟩
            all_goals
              go_wp2_with fail
              go_ret
              exact ⟨ret_bool HV.out.symm, HB.out⟩
        · have hok := (okT_iff t).2 ⟨HK.out.1 (by omega), HK.out.2.1 (by omega), HK.out.2.2 (by omega)⟩
          have HOK := Aside0.mk hok
          clear hok
          by_cases h0 : 0 < i
          · obtain ⟨j, rfl⟩ : ∃ j, i = j + 1 := ⟨i - 1, by omega⟩
            obtain ⟨ad', e', q0, q1, q2⟩ := HP.out (by omega)
            cases e'
            have hdr : Below wr.heap.size wr wr.drew := below_drew (Below.refl _ _)
            have CL := Aside0.mk (less_any u t)
            have e1 : IntKind.i64.wrap ((j : Int) + 1 - 1) = (j : Int) := by rw [show (j : Int) + 1 - 1 = (j : Int) by omega]; exact IntWalk.i64_in _ (by omega)
            have e2 : IntKind.i64.wrap (j : Int) = (j : Int) := IntWalk.i64_in _ (by omega)
            have hg : decide ((0 : Int) < (j : Int) + 1) = true := decide_eq_true (by omega)
            have hj1 : j < n := by omega
            have hj2 : (0 : Int) ≤ (j : Int) := by omega
            have hj3 : (j : Int) < (n : Int) := by omega
            have hj4 : (0 : Int) ≤ (j : Int) + 1 := by omega
            have hj5 : (j : Int) + 1 < (n : Int) := by omega
            have hj6 : ((j : Int) + 1).toNat = j + 1 := by omega
            simp only [Nat.add_sub_cancel] at q0 q1 q2
            have hdk : ∀ q, wr.drew.cell? q = wr.cell? q := fun _ => rfl
            rw [← hdk] at q0 q1 q2 k0 k1 k2
            have HBd := Aside0.mk (below_drew HB.out)
            have hS : Aside0 (lessB u t = true → MayTo ts (j + 1 + 1)) := ⟨fun h => HMS.out HOK.out (fun _ => h)⟩
            have hN : Aside0 (¬ lessB u t = true → V = false) := ⟨fun h => HNO2.out ⟨by omega, h⟩⟩
            clear hdr hdk HB HNO HNO2 HMS HC HP HM HK
            go_upto_region 9 with (fail)
            refine wp_region_still_tail 12 (by kernel_rfl) (by kernel_rfl) ?_
            rw [show ({ heap := wr.heap, tape := wr.tape, drawn := wr.drawn + 1, os := wr.os, output := wr.output } : World) = wr.drew from rfl]
            generalize wr.drew = w5 at *
            simp only [List.take_succ_cons, List.take_zero, List.drop_succ_cons, List.drop_zero]
            repeat still_step
            try refine wpStill_nil ?_
            go_wp2_with fail
            refine (CL.out _).mono ?_
            rintro e w6 ⟨rfl, hb⟩
            have HB6 := Aside0.mk (below_step HBd.out hb)
            clear hb q0 q1 q2 k0 k1 k2 hj2 hj3 hj4 hj5 hj6 hg e1 e2
            by_cases hc : lessB u t = true
            · have HM2 := Aside0.mk (hS.out hc)
              go_wp2_with fail
              go_roundw
              case rel => exact ⟨j + 1 + 1, by omega, by go_num, HM2, HB6⟩
              case measure => simp [intOf]; omega
            · have HF := Aside0.mk (hN.out hc)
              have hc2 : lessB u t = false := by simpa using hc
              clear hc
              go_wp2_with fail
              go_ret
              exact ⟨ret_bool HF.out.symm, HB6.out⟩
          · have hi0 : i = 0 := by omega
            subst hi0
            have HM2 := Aside0.mk (HMS.out HOK.out (fun h => by omega))
            clear HMS HNO HNO2 HC HP HM k0 k1 k2 h0 HK
            go_upto_region 9 with (fail)
            go_quiet (fail)
            go_wp2_with fail
            go_roundw
            case rel => exact ⟨1, by omega, rfl, HM2, ⟨pw_below_drewN HB.out _⟩⟩
            case measure => simp [intOf]; omega
    · have hin : i = n := by omega
      subst hin
      have HV := Aside0.mk (HYES.out HM.out)
      go_wp2_with fail
      go_ret
      exact ⟨ret_bool (by rw [HV.out, decide_eq_decide]; omega), HB.out⟩
end Go.Proofs.Ytdijaobhijmknaa.Rg
