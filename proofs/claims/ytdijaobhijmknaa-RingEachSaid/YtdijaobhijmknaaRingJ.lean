/- The walk of ring.New. -/
import Derived.Test.YtdijaobhijmknaaRingI
import Derived.BigQuiet
import Derived.Deep.RegionHeld3
import Derived.Test.YtdijaobhijmknaaWAt
set_option linter.unusedSimpArgs false
set_option linter.unusedVariables false
namespace Go.Proofs.Ytdijaobhijmknaa.Rg
open Go Go.RowKit Go.Proofs.YtdijaobhijmknaaW.PrintWords Go.Proofs.YtdijaobhijmknaaW.PrintLast Go.Proofs.YtdijaobhijmknaaW.PrintMore
attribute [local go_sem] max2_int min2_int max_two min_two

/-- A Ring that is being built: a block of three pointers and the triples; the first i columns are there. -/
def ColsP (w : World) (b : Nat) (A : Option Addr) (c : Nat) (ts : List Tri) (i : Nat) : Prop :=
  ∃ p0 p1 p2, w.heap[b]? = some (.cells #[.pointer p0, .pointer p1, .pointer p2, .slice A ts.length c] 89 (0, 0)) ∧ Kd.C kT w A ts.length ts ∧
    (0 < i → Wv.IsWave w (.pointer p0) (ts.map Tri.s)) ∧ (1 < i → Wv.IsWave w (.pointer p1) (ts.map Tri.p)) ∧ (2 < i → Wv.IsWave w (.pointer p2) (ts.map Tri.o))
theorem ColsP.below {w w1 : World} {b : Nat} {A : Option Addr} {c : Nat} {ts : List Tri} {i : Nat} (h : ColsP w b A c ts i) (hb : Below w.heap.size w w1) : ColsP w1 b A c ts i := by
  obtain ⟨p0, p1, p2, h1, h2, h3, h4, h5⟩ := h
  have hl : b < w.heap.size := by
    rcases Nat.lt_or_ge b w.heap.size with hl | hl
    · exact hl
    · rw [Array.getElem?_eq_none hl] at h1; cases h1
  exact ⟨p0, p1, p2, (hb.block b hl).trans h1, Kd.C_below h2 hb, fun h => (h3 h).below hb, fun h => (h4 h).below hb, fun h => (h5 h).below hb⟩
theorem ne_int {w : World} {b : Nat} {p0 p1 p2 A : Option Addr} {n c : Nat} {ty : TypeId} (h : w.heap[b]? = some (.cells #[.pointer p0, .pointer p1, .pointer p2, .slice A n c] ty (0, 0))) {q : Addr} {x : Int} (hq : w.cell? q = some (.int .i64 x)) : q.block ≠ b := by
  intro e
  unfold World.cell? at hq
  rw [e, h] at hq
  simp only at hq
  split at hq
  · cases hq
  · have h4 : q.off = 0 ∨ q.off = 1 ∨ q.off = 2 ∨ q.off = 3 ∨ 4 ≤ q.off := by omega
    rcases h4 with h4 | h4 | h4 | h4 | h4
    · rw [h4] at hq; simp at hq
    · rw [h4] at hq; simp at hq
    · rw [h4] at hq; simp at hq
    · rw [h4] at hq; simp at hq
    · rw [Array.getElem?_eq_none (by simpa using h4)] at hq; cases hq
theorem C_set3 {w : World} {b k : Nat} {p0 p1 p2 A B : Option Addr} {n c m : Nat} {ty : TypeId} {ts : List Tri} (h : w.heap[b]? = some (.cells #[.pointer p0, .pointer p1, .pointer p2, .slice A n c] ty (0, 0))) (hc : Kd.C kT w B m ts) (u : Value) : Kd.C kT (w.setCell ⟨b, k, none⟩ u) B m ts :=
  Kd.C_foot_ne (fun h => h) hc (fun ad e hn => by
    obtain ⟨ad', e', k0, _⟩ := at3_of hc 0 hn ⟨0, 0, 0⟩
    rw [e] at e'
    injection e' with e'
    subst e'
    exact ne_int h k0) _ ((KeepBut.refl w b none).set_ k u)
theorem C_seti {w : World} {b k : Nat} {p0 p1 p2 A B : Option Addr} {n c m : Nat} {ty : TypeId} {l : List Int} (h : w.heap[b]? = some (.cells #[.pointer p0, .pointer p1, .pointer p2, .slice A n c] ty (0, 0))) (hc : Kd.C (Kd.int .i64) w B m l) (u : Value) : Kd.C (Kd.int .i64) (w.setCell ⟨b, k, none⟩ u) B m l :=
  Kd.C_foot_ne (fun h => h) hc (fun ad e hn => by
    obtain ⟨ad', e', k0⟩ := Bs.at_arg hc 0 hn
    rw [e] at e'
    injection e' with e'
    subst e'
    exact ne_int h k0) _ ((KeepBut.refl w b none).set_ k u)
theorem wave_set {w : World} {b k : Nat} {p0 p1 p2 A : Option Addr} {n c : Nat} {ty : TypeId} {v : Value} {l : List Int} (h : w.heap[b]? = some (.cells #[.pointer p0, .pointer p1, .pointer p2, .slice A n c] ty (0, 0))) (hw : Wv.IsWave w v l) (u : Value) : Wv.IsWave (w.setCell ⟨b, k, none⟩ u) v l := by
  obtain ⟨g, B, d, rfl, hc, hl, hr⟩ := hw
  have hne : g ≠ b := by
    intro e
    subst e
    unfold World.cell? at hc
    rw [h] at hc
    simp at hc
  exact ⟨g, B, d, rfl, (World.cell?_of_block (Below.heap_setCell w ⟨b, k, none⟩ u g hne)).trans hc, hl, C_seti h hr u⟩
theorem ColsP.put0 {w : World} {b : Nat} {A : Option Addr} {c : Nat} {ts : List Tri} {q : Option Addr} (h : ColsP w b A c ts 0) (hq : Wv.IsWave w (.pointer q) (ts.map Tri.s)) : ColsP (w.setCell ⟨b, 0, none⟩ (.pointer q)) b A c ts 1 := by
  obtain ⟨p0, p1, p2, h1, h2, h3, h4, h5⟩ := h
  exact ⟨q, p1, p2, by simpa using blk_set h1 0 (.pointer q), C_set3 h1 h2 _, fun _ => wave_set h1 hq _, fun h => by omega, fun h => by omega⟩
theorem ColsP.put1 {w : World} {b : Nat} {A : Option Addr} {c : Nat} {ts : List Tri} {q : Option Addr} (h : ColsP w b A c ts 1) (hq : Wv.IsWave w (.pointer q) (ts.map Tri.p)) : ColsP (w.setCell ⟨b, 1, none⟩ (.pointer q)) b A c ts 2 := by
  obtain ⟨p0, p1, p2, h1, h2, h3, h4, h5⟩ := h
  exact ⟨p0, q, p2, by simpa using blk_set h1 1 (.pointer q), C_set3 h1 h2 _, fun _ => wave_set h1 (h3 (by omega)) _, fun _ => wave_set h1 hq _, fun h => by omega⟩
theorem ColsP.put2 {w : World} {b : Nat} {A : Option Addr} {c : Nat} {ts : List Tri} {q : Option Addr} (h : ColsP w b A c ts 2) (hq : Wv.IsWave w (.pointer q) (ts.map Tri.o)) : ColsP (w.setCell ⟨b, 2, none⟩ (.pointer q)) b A c ts 3 := by
  obtain ⟨p0, p1, p2, h1, h2, h3, h4, h5⟩ := h
  exact ⟨p0, p1, q, by simpa using blk_set h1 2 (.pointer q), C_set3 h1 h2 _, fun _ => wave_set h1 (h3 (by omega)) _, fun _ => wave_set h1 (h4 (by omega)) _, fun _ => wave_set h1 hq _⟩
theorem ColsP.ring {w : World} {b : Nat} {A : Option Addr} {c : Nat} {ts : List Tri} (h : ColsP w b A c ts 3) : IsRing w (.pointer (some ⟨b, 0, none⟩)) ts := by
  obtain ⟨p0, p1, p2, h1, h2, h3, h4, h5⟩ := h
  have hk : ∀ o, w.cell? ⟨b, o, none⟩ = (#[.pointer p0, .pointer p1, .pointer p2, .slice A ts.length c] : Array Value)[o]? := fun o => by unfold World.cell?; rw [h1]; rfl
  exact ⟨b, A, c, _, _, _, rfl, hk 0, hk 1, hk 2, hk 3, h2, h3 (by omega), h4 (by omega), h5 (by omega)⟩
theorem ColsP.own {base : Nat} {w : World} {b : Nat} {A : Option Addr} {c : Nat} {ts : List Tri} (h : ColsP w b A c ts 3) (hb : base ≤ b) (ha : ∀ ad, A = some ad → base ≤ ad.block) : OwnL base w (.pointer (some ⟨b, 0, none⟩)) ts := by
  obtain ⟨p0, p1, p2, h1, h2, h3, h4, h5⟩ := h
  have hk : ∀ o, w.cell? ⟨b, o, none⟩ = (#[.pointer p0, .pointer p1, .pointer p2, .slice A ts.length c] : Array Value)[o]? := fun o => by unfold World.cell?; rw [h1]; rfl
  exact ⟨b, A, c, rfl, hb, hk 3, h2, ha⟩
theorem ColsP.start {w : World} {A : Option Addr} {c : Nat} {ts : List Tri} (h : Kd.C kT w A ts.length ts) : ColsP (w.alloc (.cells #[.pointer none, .pointer none, .pointer none, .slice A ts.length c] 89)) w.heap.size A c ts 0 :=
  ⟨none, none, none, heap_alloc_new w _, Kd.C_alloc h _, fun h => by omega, fun h => by omega, fun h => by omega⟩
/-- A ring's block may be written. -/
theorem ColsP.cells {w : World} {b : Nat} {A : Option Addr} {c : Nat} {ts : List Tri} {i : Nat} (h : ColsP w b A c ts i) (o : Nat) : w.frozen? ⟨b, o, none⟩ = false ∧ (o < 3 → ∃ p, w.cell? ⟨b, o, none⟩ = some (.pointer p)) := by
  obtain ⟨p0, p1, p2, h1, h2, h3, h4, h5⟩ := h
  have hk : ∀ o, w.cell? ⟨b, o, none⟩ = (#[.pointer p0, .pointer p1, .pointer p2, .slice A ts.length c] : Array Value)[o]? := fun o => by unfold World.cell?; rw [h1]; rfl
  refine ⟨blk_frozen h1 _, fun ho => ?_⟩
  have h4 : o = 0 ∨ o = 1 ∨ o = 2 := by omega
  rcases h4 with rfl | rfl | rfl
  · exact ⟨_, hk 0⟩
  · exact ⟨_, hk 1⟩
  · exact ⟨_, hk 2⟩
theorem col_may {ts : List Tri} (f : Tri → Int) (hf : ∀ t, okT t = true → 1 ≤ f t ∧ f t ≤ 1000) (h : MayTo ts ts.length) (hl : ts.length ≤ 100) :
    PM.May (ts.map f) 10 ∧ (∀ i : Nat, -9223372036854775808 ≤ rd (ts.map f) i ∧ rd (ts.map f) i ≤ 9223372036854775807) ∧ (ts.map f).length ≤ 9223372036854775807 := by
  have hx : ∀ x ∈ ts.map f, (0 : Int) ≤ x ∧ x ≤ 1000 := by
    intro x hx
    obtain ⟨t, ht, rfl⟩ := List.mem_map.1 hx
    obtain ⟨k, hk, rfl⟩ := List.getElem_of_mem ht
    have h1 := (h k hk ⟨0, 0, 0⟩).1
    rw [List.getD_eq_getElem?_getD, List.getElem?_eq_getElem hk] at h1
    have := hf _ h1
    simp only [Option.getD_some] at this
    omega
  have hr := fun i => Bs.mem_range hx ⟨by omega, by omega⟩ i
  refine ⟨⟨by omega, by omega, by rw [List.length_map]; omega, fun k hk => ?_⟩, fun i => ?_, by rw [List.length_map]; omega⟩
  · have := hr k
    refine ⟨this.1, ?_⟩
    have h2 : ((2 : Int) ^ (10 : Int).toNat) = 1024 := by decide
    omega
  · have := hr i
    omega
/-- What New answers. -/
def NewP (w : World) (ts : List Tri) (e : Ending) (w' : World) : Prop :=
  (mayB ts = true ∧ ∃ r, e = .returned (.tuple #[r, .int .i64 0]) ∧ IsRing w' r ts ∧ OwnL w.heap.size w' r ts ∧ Below w.heap.size w w') ∨ (mayB ts = false ∧ e = .returned (.tuple #[.pointer none, .int .i64 1]) ∧ Below w.heap.size w w')
theorem new_long (A : Option Addr) (c : Nat) (ts : List Tri) (w : World) (hl : 100 < ts.length) :
    Calls Try.prog 45 #[.slice A ts.length c] w (NewP w ts) := by
  have HN : Aside0 (mayB ts = false) := ⟨by unfold mayB; rw [decide_eq_false (by omega : ¬ ts.length ≤ 100)]; simp⟩
  have hl2 : (100 : Int) < (ts.length : Int) := by omega
  go_enter Try.func45, Try.ntmps45
  go_wp2_with fail
  go_ret2
  exact .inr ⟨HN.out, rfl, Below.refl _ _⟩
set_option maxRecDepth 100000 in
set_option maxHeartbeats 4000000 in
theorem new_any (A : Option Addr) (c : Nat) (ts : List Tri) (w : World) (hr : Kd.C kT w A ts.length ts) (hl : ts.length ≤ 100) :
    Calls Try.prog 45 #[.slice A ts.length c] w (NewP w ts) := by
  have HB3 := Aside0.mk (Below.refl w.heap.size w)
  obtain ⟨z, hz⟩ : ∃ z : Tri, z = ⟨0, 0, 0⟩ := ⟨_, rfl⟩
  have HNO0 := Aside0.mk (fun i (hi : i < ts.length) (h : ¬ okT (ts.getD i z) = true ∨ (0 < i ∧ ¬ lessB (ts.getD (i - 1) z) (ts.getD i z) = true)) => may_no hi h)
  have HYES := Aside0.mk (fun h => may_yes (ts := ts) h)
  obtain ⟨n, hn⟩ : ∃ n, n = ts.length := ⟨_, rfl⟩
  have HR := Aside0.mk hr
  have HN := Aside0.mk hn
  rw [← hn] at HR hl HNO0 HYES ⊢
  have HLN : Aside0 (∀ {i}, i < n → i < ts.length) := ⟨fun h => by omega⟩
  clear hr hz hn
  go_enter Try.func45, Try.ntmps45
  go_wp2_with fail
  go_loopw [17] (fun x wr => ∃ i : Nat, i ≤ n ∧ x = .int .i64 i ∧ Aside0 (MayTo ts i) ∧ Aside0 (Below w.heap.size w wr)) (fun x _ => n - (intOf x).toNat)
  case atStart => exact ⟨0, by omega, rfl, ⟨fun i hi => by omega⟩, HB3⟩
  case round =>
    clear HB3
    obtain ⟨i, hi, rfl, HM, HB⟩ := hrel
    by_cases hlt : i < n
    · have HC := Aside0.mk (Kd.C_below HR.out HB.out)
      obtain ⟨ad, rfl, k0, k1, k2⟩ := at3_of HC.out i hlt z
      have HNO := Aside0.mk (fun h => HNO0.out i hlt (.inl h))
      have HNO2 := Aside0.mk (fun h => HNO0.out i hlt (.inr h))
      have HMS := Aside0.mk (fun (h1 : okT (ts.getD i z) = true) (h2 : 0 < i → lessB (ts.getD (i - 1) z) (ts.getD i z) = true) => may_step (HLN.out hlt) HM.out h1 h2)
      obtain ⟨t, ht⟩ : ∃ t, t = ts.getD i z := ⟨_, rfl⟩
      obtain ⟨wc, hwc, HY0, HCB, HCS⟩ := boxed_world wr t 54
      have HBC := Aside0.mk (below_two' HB.out HCB.out)
      have CF := Aside0.mk (fun k => (containsInt_any ⟨wr.heap.size, 0, none⟩ 3 t (wc.drewN k) HY0.out).mono (R' := fun e w' => e = .returned (.bool (!okT t)) ∧ w' = wc.drewN k) (fun e w' h => ⟨h.1, h.2.symm⟩))
      rw [← ht] at k0 k1 k2 HNO HNO2 HMS
      rw [hwc] at CF HBC
      clear HNO0
      cases hok : okT t with
      | false =>
        rw [hok, show (!false) = true from rfl] at CF
        have HF := Aside0.mk (HNO.out (by rw [hok]; decide))
        clear hok ht hwc
        go_upto_region 7 with (fail)
        generalize wr.alloc (.cells #[.int .i64 t.s, .int .i64 t.p, .int .i64 t.o] 54) = w5 at *
        generalize wr.heap.size = b6 at *
        go_quiet (first | (go_at_call 67; exact Calls.quiet_of_same (CF.out _)))
        go_wp2_with fail
        go_ret2
        exact .inr ⟨HF.out, rfl, pw_below_drewN HBC.out _⟩
      | true =>
        rw [hok, show (!true) = false from rfl] at CF
        have HOK := Aside0.mk hok
        clear hok
        by_cases h0 : 0 < i
        · obtain ⟨j, rfl⟩ : ∃ j, i = j + 1 := ⟨i - 1, by omega⟩
          obtain ⟨u, hu⟩ : ∃ u, u = ts.getD (j + 1 - 1) z := ⟨_, rfl⟩
          obtain ⟨ad', e', hq⟩ := at3_of (Kd.C_below HC.out HCB.out) j (by omega) z
          injection e' with e'
          subst e'
          simp only [Nat.add_sub_cancel] at hu
          rw [← hu] at hq
          have CC := Aside0.mk (fun k => (compare_any (ad.add (j * 3)) ⟨wr.heap.size, 0, none⟩ 3 3 u t (wc.drewN k) hq HY0.out).mono (R' := fun e w' => e = .returned (.int .i64 (cmpT u t)) ∧ w' = wc.drewN k) (fun e w' h => ⟨h.1, h.2.symm⟩))
          have hx : decide (0 ≤ cmpT u t) = !lessB u t := cmpT_less u t
          have HMS2 : Aside0 (lessB u t = true → MayTo ts (j + 1 + 1)) := ⟨fun h => HMS.out HOK.out (fun _ => by rw [Nat.add_sub_cancel, ← hu]; exact h)⟩
          have HNO3 : Aside0 (lessB u t = false → mayB ts = false) := ⟨fun h => HNO2.out ⟨by omega, by rw [Nat.add_sub_cancel, ← hu, h]; decide⟩⟩
          rw [hwc] at CC
          generalize cmpT u t = x at *
          have e1 : IntKind.i64.wrap ((j : Int) + 1 - 1) = (j : Int) := by rw [show (j : Int) + 1 - 1 = (j : Int) by omega]; exact IntWalk.i64_in _ (by omega)
          have e2 : IntKind.i64.wrap (j : Int) = (j : Int) := IntWalk.i64_in _ (by omega)
          have hg : decide ((0 : Int) < (j : Int) + 1) = true := decide_eq_true (by omega)
          have hj1 : j < n := by omega
          have hj2 : (0 : Int) ≤ (j : Int) := by omega
          have hj3 : (j : Int) < (n : Int) := by omega
          have hj4 : (0 : Int) ≤ (j : Int) + 1 := by omega
          have hj5 : (j : Int) + 1 < (n : Int) := by omega
          have hj6 : ((j : Int) + 1).toNat = j + 1 := by omega
          cases hls : lessB u t with
          | true =>
            have hx2 : x < 0 := by rw [hls] at hx; simpa using hx
            have HM2 := Aside0.mk (HMS2.out hls)
            clear ht hwc hu hq hx hls HMS HNO HNO2 HMS2 HNO3 HC HM h0
            go_upto_region 7 with (fail)
            generalize wr.alloc (.cells #[.int .i64 t.s, .int .i64 t.p, .int .i64 t.o] 54) = w5 at *
            generalize wr.heap.size = b6 at *
            go_quiet (first | (go_at_call 67; exact Calls.quiet_of_same (CF.out _)) | (go_at_call 68; exact Calls.quiet_of_same (CC.out _)))
            go_wp2_with fail
            go_roundw
            case rel => exact ⟨j + 1 + 1, by omega, by go_num, HM2, ⟨pw_below_drewN HBC.out _⟩⟩
            case measure => simp [intOf]; omega
          | false =>
            have hx2 : 0 ≤ x := by rw [hls] at hx; simpa using hx
            have HF := Aside0.mk (HNO3.out hls)
            clear ht hwc hu hq hx hls HMS HNO HNO2 HMS2 HNO3 HC HM h0
            go_upto_region 7 with (fail)
            generalize wr.alloc (.cells #[.int .i64 t.s, .int .i64 t.p, .int .i64 t.o] 54) = w5 at *
            generalize wr.heap.size = b6 at *
            go_quiet (first | (go_at_call 67; exact Calls.quiet_of_same (CF.out _)) | (go_at_call 68; exact Calls.quiet_of_same (CC.out _)))
            go_wp2_with fail
            go_ret2
            exact .inr ⟨HF.out, rfl, pw_below_drewN HBC.out _⟩
        · have hg : decide ((0 : Int) < (i : Int)) = false := decide_eq_false (by omega)
          have hg2 : decide (0 < i) = false := decide_eq_false h0
          have hg3 : ¬ (0 : Int) < (i : Int) := by omega
          have hj2 : (0 : Int) ≤ (i : Int) := by omega
          have hj3 : (i : Int) < (n : Int) := by omega
          have HM2 := Aside0.mk (HMS.out HOK.out (fun h => absurd h h0))
          clear ht hwc HMS HNO HNO2 HC HM h0
          go_upto_region 7 with (fail)
          generalize wr.alloc (.cells #[.int .i64 t.s, .int .i64 t.p, .int .i64 t.o] 54) = w5 at *
          generalize wr.heap.size = b6 at *
          go_quiet (first | (go_at_call 67; exact Calls.quiet_of_same (CF.out _)))
          go_wp2_with fail
          go_roundw
          case rel => exact ⟨i + 1, by omega, by go_num, HM2, ⟨pw_below_drewN HBC.out _⟩⟩
          case measure => simp [intOf]; omega
    · have hin : i = n := by omega
      subst hin
      have HMY : Aside0 (mayB ts = true) := ⟨by rw [HYES.out HM.out]; exact decide_eq_true hl⟩
      have HMT := HM
      have CCL := cloneT_any A c ts wr (by rw [← HN.out]; exact Kd.C_below HR.out HB.out) (by rw [← HN.out]; omega)
      rw [← HN.out] at CCL
      have CCL := Aside0.mk CCL
      clear HNO0 HYES HLN
      go_upto_region 11 with (go_at_call 69; (with_reducible refine CCL.out.mono ?_); rintro e w1 ⟨v, rfl, hv, hb⟩; obtain ⟨A2, d2, e2⟩ := Kd.R_slice hv; subst e2; have HV := Aside0.mk hv; have HB1 := Aside0.mk (below_two' HB.out hb); clear hv hb)
      -- COLUMNS
      have HCP := Aside0.mk (ColsP.start (c := d2) (Bs.reads_n HV.out).2.2)
      have HBX := Aside0.mk (below_alloc HB1.out (.cells #[.pointer none, .pointer none, .pointer none, .slice A2 ts.length d2] 89))
      obtain ⟨rb, hrb⟩ : ∃ rb, rb = w1.heap.size := ⟨_, rfl⟩
      rw [← hrb] at HCP ⊢
      have HA2 : Aside0 (∀ ad, A2 = some ad → w.heap.size ≤ ad.block) := ⟨fun ad e => Nat.le_trans HB.out.size (Kd.R_base HV.out ad.block (by rw [e]; rfl))⟩
      have HRB : Aside0 (w.heap.size ≤ rb) := ⟨by rw [hrb]; exact HB1.out.size⟩
      clear hrb HV HB1 HM HB CCL
      generalize w1.alloc (.cells #[.pointer none, .pointer none, .pointer none, .slice A2 ts.length d2] 89) = w2 at *
      go_wp2_with fail
      go_loopw [44] (fun x wr2 => ∃ k : Nat, k ≤ 3 ∧ x = .int .i64 k ∧ Aside0 (ColsP wr2 rb A2 d2 ts k) ∧ Aside0 (Below w.heap.size w wr2)) (fun x _ => 3 - (intOf x).toNat)
      case atStart => exact ⟨0, by omega, rfl, HCP, HBX⟩
      case round =>
        clear HCP HBX
        obtain ⟨wr2, rfl⟩ : ∃ x, x = wr := ⟨wr, rfl⟩
        obtain ⟨k, hk, rfl, HCP, HB4⟩ := hrel
        have h3 : k = 0 ∨ k = 1 ∨ k = 2 ∨ k = 3 := by omega
        rcases h3 with rfl | rfl | rfl | rfl
        · rw [show ((0 : Nat) : Int) = 0 from rfl]
          obtain ⟨l, hl0⟩ : ∃ l : Nat → List Int, l = fun j => (ts.take j).map Tri.s := ⟨_, rfl⟩
          have HL0 : Aside0 (l 0 = []) := ⟨by rw [hl0]; rfl⟩
          have HLL : Aside0 (∀ j, (l j).length ≤ j) := ⟨fun j => by rw [hl0]; simp only [List.length_map, List.length_take]; omega⟩
          have HLS : Aside0 (∀ j, j < i → l (j + 1) = l j ++ [(ts.getD j z).s]) := ⟨fun j hj => by rw [hl0]; simp only; rw [take_snoc (z := z) (by rw [← HN.out]; exact hj), List.map_append]; rfl⟩
          have HLE : Aside0 (l i = ts.map Tri.s) := ⟨by rw [hl0]; simp only; rw [HN.out, List.take_length]⟩
          clear hl0
          go_wp2_with fail
          go_loopw [9, 49] (fun y x wx => ∃ j : Nat, j ≤ i ∧ x = .int .i64 j ∧ Aside0 (Kd.R (Kd.int .i64) 3 wx wr2.heap.size (fun _ => True) y (l j)) ∧ Aside0 (Below wr2.heap.size wr2 wx)) (fun _ x _ => i - (intOf x).toNat)
          case atStart => exact ⟨0, by omega, rfl, ⟨by rw [HL0.out]; exact Kd.R_nil _ _ _ _ _⟩, ⟨Below.refl _ _⟩⟩
          case round =>
            obtain ⟨wx, rfl⟩ : ∃ x, x = wr := ⟨wr, rfl⟩
            obtain ⟨j, hj, rfl, HO, HBJ⟩ := hrel
            by_cases hlj : j < i
            · have HBW := Aside0.mk (below_two' HB4.out HBJ.out)
              obtain ⟨ad, rfl, k0, k1, k2⟩ := at3_of (Kd.C_below HR.out HBW.out) j hlj z
              have HLJ := Aside0.mk (HLS.out j hlj)
              have HLB := Aside0.mk (HLL.out j)
              obtain ⟨t, ht⟩ : ∃ t, t = ts.getD j z := ⟨_, rfl⟩
              rw [← ht] at k0 k1 k2 HLJ
              have hj2 : (0 : Int) ≤ (j : Int) := by omega
              have hj3 : (j : Int) < (i : Int) := by omega
              have HO2 := Aside0.mk (Kd.R_alloc HO.out (.cells #[.int .i64 t.s, .int .i64 t.p, .int .i64 t.o] 54))
              have HBJ2 := Aside0.mk (below_alloc HBJ.out (.cells #[.int .i64 t.s, .int .i64 t.p, .int .i64 t.o] 54))
              clear ht HO HLS HLL
              go_wp2_with (first
                | ((with_reducible refine gate_builtin (b := .append) (xs := #[.tmp 53, .tmp 57]) rfl ?_); at_builtin; go_loud (refine Kd.R_append (Kd.int .i64) (w0 := wr2) wr2.heap.size rfl (.tmp 53) (.tmp 57) 26 3 (.int .i64 0) 8 rfl Try.underlying26 Bs.info_int rfl (by decide) (by omega) u9 (l j) t.s [.int .i64 t.s] (fun _ => True) (fun _ => False) rfl ?aX ?aP (fun _ hk => hk.elim) ?aF ?aO ?aB ?aS ?aL ?_); (case aP => exact rfl); (case aX => (refine Eq.trans (b := Value.slice (some ⟨wx.heap.size + 1, 0, none⟩) 1 1) rfl ?_; simp)); (case aB => exact HBJ2.out); (case aF => exact (fun _ _ => trivial)); (case aO => exact HO2.out); (case aS => exact HBJ2.out.size); (case aL => have := HLB.out; omega); intro v7 w7 ho hb hg hat; have HO7 := Aside0.mk ho; have HB7 := Aside0.mk hb; clear ho hb hg hat))
              go_roundw
              case rel => exact ⟨j + 1, by omega, by go_num, ⟨by rw [HLJ.out]; exact HO7.out⟩, HB7⟩
              case measure => simp [intOf]; omega
            · have hji : j = i := by omega
              subst hji
              have HO2 : Aside0 (Kd.R (Kd.int .i64) 3 wx wr2.heap.size (fun _ => True) u9 (ts.map Tri.s)) := ⟨by rw [← HLE.out]; exact HO.out⟩
              obtain ⟨A5, c5, e5⟩ := Kd.R_slice HO2.out
              subst e5
              have HBW := Aside0.mk (below_two' HB4.out HBJ.out)
              have HCP2 := Aside0.mk (HCP.out.below HBJ.out)
              obtain ⟨hm, hwf, hln⟩ := col_may Tri.s (fun t h => ok_0 h) (by rw [← HN.out]; exact HMT.out) (by rw [← HN.out]; exact hl)
              have CW := Aside0.mk (fun W (hb : Below wx.heap.size wx W) => Wv.new_ok A5 c5 (ts.map Tri.s) 10 W (Kd.C_below (Bs.reads_n HO2.out).2.2 hb) (Bs.reads_n HO2.out).2.1 hln hwf hm)
              simp only [List.length_map] at CW
              clear HLS HLL HLE HL0 HO HCP hm hwf hln
              go_upto_region 20 with (fail)
              have hS : (fun _ : World => True) wx.drew := trivial
              refine wp_region_held (S := (fun _ : World => True)) (by kernel_rfl) ?_
              change wpAnyH _ _ _ _ _ _ _ _ wx.drew
              first
                | (refine wpAnyH_take (i := 0) (v := undef) rfl (by kernel_rfl) (by kernel_rfl) (by kernel_rfl) (fun _ _ _ h => h) (Or.inr ⟨by rfl, rfl⟩) hS ?_)
                | (refine wpAnyH_take (i := 0) (v := ?_) rfl (by kernel_rfl) (by kernel_rfl) (by kernel_rfl) (fun _ _ _ h => h) (Or.inl ⟨by rfl, ?_⟩) hS ?_
                   rotate_left 1
                   · (intro w0 hSw; (try dsimp only at hSw); go_split_ands; go_simp; try with_reducible rfl))
                | fail
              try simp only [Act.put, List.getElem_toArray, List.getElem_cons_succ, List.getElem_cons_zero, List.setIfInBounds_toArray, List.set_cons_zero, List.set_cons_succ]
              first
                | (refine wpAnyH_take (i := 1) (v := undef) rfl (by kernel_rfl) (by kernel_rfl) (by kernel_rfl) (fun _ _ _ h => h) (Or.inr ⟨by rfl, rfl⟩) hS ?_)
                | (refine wpAnyH_take (i := 1) (v := ?_) rfl (by kernel_rfl) (by kernel_rfl) (by kernel_rfl) (fun _ _ _ h => h) (Or.inl ⟨by rfl, ?_⟩) hS ?_
                   rotate_left 1
                   · (intro w0 hSw; (try dsimp only at hSw); go_split_ands; go_simp; try with_reducible rfl))
                | fail
              try simp only [Act.put, List.getElem_toArray, List.getElem_cons_succ, List.getElem_cons_zero, List.setIfInBounds_toArray, List.set_cons_zero, List.set_cons_succ]
              first
                | (refine wpAnyH_take (i := 2) (v := undef) rfl (by kernel_rfl) (by kernel_rfl) (by kernel_rfl) (fun _ _ _ h => h) (Or.inr ⟨by rfl, rfl⟩) hS ?_)
                | (refine wpAnyH_take (i := 2) (v := ?_) rfl (by kernel_rfl) (by kernel_rfl) (by kernel_rfl) (fun _ _ _ h => h) (Or.inl ⟨by rfl, ?_⟩) hS ?_
                   rotate_left 1
                   · (intro w0 hSw; (try dsimp only at hSw); go_split_ands; go_simp; try with_reducible rfl))
                | fail
              try simp only [Act.put, List.getElem_toArray, List.getElem_cons_succ, List.getElem_cons_zero, List.setIfInBounds_toArray, List.set_cons_zero, List.set_cons_succ]
              first
                | (refine wpAnyH_take (i := 7) (v := undef) rfl (by kernel_rfl) (by kernel_rfl) (by kernel_rfl) (fun _ _ _ h => h) (Or.inr ⟨by rfl, rfl⟩) hS ?_)
                | (refine wpAnyH_take (i := 7) (v := ?_) rfl (by kernel_rfl) (by kernel_rfl) (by kernel_rfl) (fun _ _ _ h => h) (Or.inl ⟨by rfl, ?_⟩) hS ?_
                   rotate_left 1
                   · (intro w0 hSw; (try dsimp only at hSw); go_split_ands; go_simp; try with_reducible rfl))
                | fail
              try simp only [Act.put, List.getElem_toArray, List.getElem_cons_succ, List.getElem_cons_zero, List.setIfInBounds_toArray, List.set_cons_zero, List.set_cons_succ]
              first
                | (refine wpAnyH_take (i := 8) (v := undef) rfl (by kernel_rfl) (by kernel_rfl) (by kernel_rfl) (fun _ _ _ h => h) (Or.inr ⟨by rfl, rfl⟩) hS ?_)
                | (refine wpAnyH_take (i := 8) (v := ?_) rfl (by kernel_rfl) (by kernel_rfl) (by kernel_rfl) (fun _ _ _ h => h) (Or.inl ⟨by rfl, ?_⟩) hS ?_
                   rotate_left 1
                   · (intro w0 hSw; (try dsimp only at hSw); go_split_ands; go_simp; try with_reducible rfl))
                | fail
              try simp only [Act.put, List.getElem_toArray, List.getElem_cons_succ, List.getElem_cons_zero, List.setIfInBounds_toArray, List.set_cons_zero, List.set_cons_succ]
              refine wpAnyH_ready (rs := [3]) (by kernel_rfl) (by simp) ?_
              refine AllReadyH.cons rfl (fun K hK => ?_) AllReadyH.nil
              go_simp
              refine (CW.out _ (below_drew (Below.refl _ _))).mono ?_
              rintro e w6 ⟨v6, rfl, hv6, hb⟩
              have HCP6 := Aside0.mk ((HCP2.out.below (below_drew (Below.refl _ _))).below hb)
              have HB6 := Aside0.mk (below_two' (below_drew HBW.out) hb)
              have HV6 := Aside0.mk hv6
              obtain ⟨fz, ce⟩ := HCP6.out.cells 0
              obtain ⟨pe, ce⟩ := ce (by decide)
              obtain ⟨g6, _, _, e6, _⟩ := hv6
              subst e6
              clear hb hS
              have hS : (fun _ : World => True) w6 := trivial
              refine hK.out _ _ hS (fun _ => ?_)
              clear hK K
              try simp only [Act.put, List.getElem_toArray, List.getElem_cons_succ, List.getElem_cons_zero, List.setIfInBounds_toArray, List.set_cons_zero, List.set_cons_succ]
              first
                | (refine wpAnyH_take (i := 4) (v := undef) rfl (by kernel_rfl) (by kernel_rfl) (by kernel_rfl) (fun _ _ _ h => h) (Or.inr ⟨by rfl, rfl⟩) hS ?_)
                | (refine wpAnyH_take (i := 4) (v := ?_) rfl (by kernel_rfl) (by kernel_rfl) (by kernel_rfl) (fun _ _ _ h => h) (Or.inl ⟨by rfl, ?_⟩) hS ?_
                   rotate_left 1
                   · (intro w0 hSw; (try dsimp only at hSw); go_split_ands; go_simp; try with_reducible rfl))
                | fail
              try simp only [Act.put, List.getElem_toArray, List.getElem_cons_succ, List.getElem_cons_zero, List.setIfInBounds_toArray, List.set_cons_zero, List.set_cons_succ]
              first
                | (refine wpAnyH_take (i := 5) (v := undef) rfl (by kernel_rfl) (by kernel_rfl) (by kernel_rfl) (fun _ _ _ h => h) (Or.inr ⟨by rfl, rfl⟩) hS ?_)
                | (refine wpAnyH_take (i := 5) (v := ?_) rfl (by kernel_rfl) (by kernel_rfl) (by kernel_rfl) (fun _ _ _ h => h) (Or.inl ⟨by rfl, ?_⟩) hS ?_
                   rotate_left 1
                   · (intro w0 hSw; (try dsimp only at hSw); go_split_ands; go_simp; try with_reducible rfl))
                | fail
              try simp only [Act.put, List.getElem_toArray, List.getElem_cons_succ, List.getElem_cons_zero, List.setIfInBounds_toArray, List.set_cons_zero, List.set_cons_succ]
              first
                | (refine wpAnyH_take (i := 6) (v := undef) rfl (by kernel_rfl) (by kernel_rfl) (by kernel_rfl) (fun _ _ _ h => h) (Or.inr ⟨by rfl, rfl⟩) hS ?_)
                | (refine wpAnyH_take (i := 6) (v := ?_) rfl (by kernel_rfl) (by kernel_rfl) (by kernel_rfl) (fun _ _ _ h => h) (Or.inl ⟨by rfl, ?_⟩) hS ?_
                   rotate_left 1
                   · (intro w0 hSw; (try dsimp only at hSw); go_split_ands; go_simp; try with_reducible rfl))
                | fail
              try simp only [Act.put, List.getElem_toArray, List.getElem_cons_succ, List.getElem_cons_zero, List.setIfInBounds_toArray, List.set_cons_zero, List.set_cons_succ]
              first
                | (refine wpAnyH_take (i := 9) (v := undef) rfl (by kernel_rfl) (by kernel_rfl) (by kernel_rfl) (fun _ _ _ h => h) (Or.inr ⟨by rfl, rfl⟩) hS ?_)
                | (refine wpAnyH_take (i := 9) (v := ?_) rfl (by kernel_rfl) (by kernel_rfl) (by kernel_rfl) (fun _ _ _ h => h) (Or.inl ⟨by rfl, ?_⟩) hS ?_
                   rotate_left 1
                   · (intro w0 hSw; (try dsimp only at hSw); go_split_ands; go_simp; try with_reducible rfl))
                | fail
              try simp only [Act.put, List.getElem_toArray, List.getElem_cons_succ, List.getElem_cons_zero, List.setIfInBounds_toArray, List.set_cons_zero, List.set_cons_succ]
              refine wpAnyH_ready (rs := [10]) (by kernel_rfl) (by simp) ?_
              refine AllReadyH.cons rfl (fun K hK => ?_) AllReadyH.nil
              go_simp
              refine hK.out _ _ trivial (fun _ => ?_)
              clear hK K
              try simp only [Act.put, List.getElem_toArray, List.getElem_cons_succ, List.getElem_cons_zero, List.setIfInBounds_toArray, List.set_cons_zero, List.set_cons_succ]
              refine wpAnyH_done (by kernel_rfl) ?_ _
              go_wp2_with fail
              go_roundw
              case rel => exact ⟨1, by omega, rfl, ⟨HCP6.out.put0 HV6.out⟩, ⟨HB6.out.setCell HRB.out _⟩⟩
              case measure => simp [intOf]
        · rw [show ((1 : Nat) : Int) = 1 from rfl]
          obtain ⟨l, hl0⟩ : ∃ l : Nat → List Int, l = fun j => (ts.take j).map Tri.p := ⟨_, rfl⟩
          have HL0 : Aside0 (l 0 = []) := ⟨by rw [hl0]; rfl⟩
          have HLL : Aside0 (∀ j, (l j).length ≤ j) := ⟨fun j => by rw [hl0]; simp only [List.length_map, List.length_take]; omega⟩
          have HLS : Aside0 (∀ j, j < i → l (j + 1) = l j ++ [(ts.getD j z).p]) := ⟨fun j hj => by rw [hl0]; simp only; rw [take_snoc (z := z) (by rw [← HN.out]; exact hj), List.map_append]; rfl⟩
          have HLE : Aside0 (l i = ts.map Tri.p) := ⟨by rw [hl0]; simp only; rw [HN.out, List.take_length]⟩
          clear hl0
          go_wp2_with fail
          go_loopw [9, 49] (fun y x wx => ∃ j : Nat, j ≤ i ∧ x = .int .i64 j ∧ Aside0 (Kd.R (Kd.int .i64) 3 wx wr2.heap.size (fun _ => True) y (l j)) ∧ Aside0 (Below wr2.heap.size wr2 wx)) (fun _ x _ => i - (intOf x).toNat)
          case atStart => exact ⟨0, by omega, rfl, ⟨by rw [HL0.out]; exact Kd.R_nil _ _ _ _ _⟩, ⟨Below.refl _ _⟩⟩
          case round =>
            obtain ⟨wx, rfl⟩ : ∃ x, x = wr := ⟨wr, rfl⟩
            obtain ⟨j, hj, rfl, HO, HBJ⟩ := hrel
            by_cases hlj : j < i
            · have HBW := Aside0.mk (below_two' HB4.out HBJ.out)
              obtain ⟨ad, rfl, k0, k1, k2⟩ := at3_of (Kd.C_below HR.out HBW.out) j hlj z
              have HLJ := Aside0.mk (HLS.out j hlj)
              have HLB := Aside0.mk (HLL.out j)
              obtain ⟨t, ht⟩ : ∃ t, t = ts.getD j z := ⟨_, rfl⟩
              rw [← ht] at k0 k1 k2 HLJ
              have hj2 : (0 : Int) ≤ (j : Int) := by omega
              have hj3 : (j : Int) < (i : Int) := by omega
              have HO2 := Aside0.mk (Kd.R_alloc HO.out (.cells #[.int .i64 t.s, .int .i64 t.p, .int .i64 t.o] 54))
              have HBJ2 := Aside0.mk (below_alloc HBJ.out (.cells #[.int .i64 t.s, .int .i64 t.p, .int .i64 t.o] 54))
              clear ht HO HLS HLL
              go_wp2_with (first
                | ((with_reducible refine gate_builtin (b := .append) (xs := #[.tmp 53, .tmp 57]) rfl ?_); at_builtin; go_loud (refine Kd.R_append (Kd.int .i64) (w0 := wr2) wr2.heap.size rfl (.tmp 53) (.tmp 57) 26 3 (.int .i64 0) 8 rfl Try.underlying26 Bs.info_int rfl (by decide) (by omega) u9 (l j) t.p [.int .i64 t.p] (fun _ => True) (fun _ => False) rfl ?aX ?aP (fun _ hk => hk.elim) ?aF ?aO ?aB ?aS ?aL ?_); (case aP => exact rfl); (case aX => (refine Eq.trans (b := Value.slice (some ⟨wx.heap.size + 1, 0, none⟩) 1 1) rfl ?_; simp)); (case aB => exact HBJ2.out); (case aF => exact (fun _ _ => trivial)); (case aO => exact HO2.out); (case aS => exact HBJ2.out.size); (case aL => have := HLB.out; omega); intro v7 w7 ho hb hg hat; have HO7 := Aside0.mk ho; have HB7 := Aside0.mk hb; clear ho hb hg hat))
              go_roundw
              case rel => exact ⟨j + 1, by omega, by go_num, ⟨by rw [HLJ.out]; exact HO7.out⟩, HB7⟩
              case measure => simp [intOf]; omega
            · have hji : j = i := by omega
              subst hji
              have HO2 : Aside0 (Kd.R (Kd.int .i64) 3 wx wr2.heap.size (fun _ => True) u9 (ts.map Tri.p)) := ⟨by rw [← HLE.out]; exact HO.out⟩
              obtain ⟨A5, c5, e5⟩ := Kd.R_slice HO2.out
              subst e5
              have HBW := Aside0.mk (below_two' HB4.out HBJ.out)
              have HCP2 := Aside0.mk (HCP.out.below HBJ.out)
              obtain ⟨hm, hwf, hln⟩ := col_may Tri.p (fun t h => ok_1 h) (by rw [← HN.out]; exact HMT.out) (by rw [← HN.out]; exact hl)
              have CW := Aside0.mk (fun W (hb : Below wx.heap.size wx W) => Wv.new_ok A5 c5 (ts.map Tri.p) 10 W (Kd.C_below (Bs.reads_n HO2.out).2.2 hb) (Bs.reads_n HO2.out).2.1 hln hwf hm)
              simp only [List.length_map] at CW
              clear HLS HLL HLE HL0 HO HCP hm hwf hln
              go_upto_region 20 with (fail)
              have hS : (fun _ : World => True) wx.drew := trivial
              refine wp_region_held (S := (fun _ : World => True)) (by kernel_rfl) ?_
              change wpAnyH _ _ _ _ _ _ _ _ wx.drew
              first
                | (refine wpAnyH_take (i := 0) (v := undef) rfl (by kernel_rfl) (by kernel_rfl) (by kernel_rfl) (fun _ _ _ h => h) (Or.inr ⟨by rfl, rfl⟩) hS ?_)
                | (refine wpAnyH_take (i := 0) (v := ?_) rfl (by kernel_rfl) (by kernel_rfl) (by kernel_rfl) (fun _ _ _ h => h) (Or.inl ⟨by rfl, ?_⟩) hS ?_
                   rotate_left 1
                   · (intro w0 hSw; (try dsimp only at hSw); go_split_ands; go_simp; try with_reducible rfl))
                | fail
              try simp only [Act.put, List.getElem_toArray, List.getElem_cons_succ, List.getElem_cons_zero, List.setIfInBounds_toArray, List.set_cons_zero, List.set_cons_succ]
              first
                | (refine wpAnyH_take (i := 1) (v := undef) rfl (by kernel_rfl) (by kernel_rfl) (by kernel_rfl) (fun _ _ _ h => h) (Or.inr ⟨by rfl, rfl⟩) hS ?_)
                | (refine wpAnyH_take (i := 1) (v := ?_) rfl (by kernel_rfl) (by kernel_rfl) (by kernel_rfl) (fun _ _ _ h => h) (Or.inl ⟨by rfl, ?_⟩) hS ?_
                   rotate_left 1
                   · (intro w0 hSw; (try dsimp only at hSw); go_split_ands; go_simp; try with_reducible rfl))
                | fail
              try simp only [Act.put, List.getElem_toArray, List.getElem_cons_succ, List.getElem_cons_zero, List.setIfInBounds_toArray, List.set_cons_zero, List.set_cons_succ]
              first
                | (refine wpAnyH_take (i := 2) (v := undef) rfl (by kernel_rfl) (by kernel_rfl) (by kernel_rfl) (fun _ _ _ h => h) (Or.inr ⟨by rfl, rfl⟩) hS ?_)
                | (refine wpAnyH_take (i := 2) (v := ?_) rfl (by kernel_rfl) (by kernel_rfl) (by kernel_rfl) (fun _ _ _ h => h) (Or.inl ⟨by rfl, ?_⟩) hS ?_
                   rotate_left 1
                   · (intro w0 hSw; (try dsimp only at hSw); go_split_ands; go_simp; try with_reducible rfl))
                | fail
              try simp only [Act.put, List.getElem_toArray, List.getElem_cons_succ, List.getElem_cons_zero, List.setIfInBounds_toArray, List.set_cons_zero, List.set_cons_succ]
              first
                | (refine wpAnyH_take (i := 7) (v := undef) rfl (by kernel_rfl) (by kernel_rfl) (by kernel_rfl) (fun _ _ _ h => h) (Or.inr ⟨by rfl, rfl⟩) hS ?_)
                | (refine wpAnyH_take (i := 7) (v := ?_) rfl (by kernel_rfl) (by kernel_rfl) (by kernel_rfl) (fun _ _ _ h => h) (Or.inl ⟨by rfl, ?_⟩) hS ?_
                   rotate_left 1
                   · (intro w0 hSw; (try dsimp only at hSw); go_split_ands; go_simp; try with_reducible rfl))
                | fail
              try simp only [Act.put, List.getElem_toArray, List.getElem_cons_succ, List.getElem_cons_zero, List.setIfInBounds_toArray, List.set_cons_zero, List.set_cons_succ]
              first
                | (refine wpAnyH_take (i := 8) (v := undef) rfl (by kernel_rfl) (by kernel_rfl) (by kernel_rfl) (fun _ _ _ h => h) (Or.inr ⟨by rfl, rfl⟩) hS ?_)
                | (refine wpAnyH_take (i := 8) (v := ?_) rfl (by kernel_rfl) (by kernel_rfl) (by kernel_rfl) (fun _ _ _ h => h) (Or.inl ⟨by rfl, ?_⟩) hS ?_
                   rotate_left 1
                   · (intro w0 hSw; (try dsimp only at hSw); go_split_ands; go_simp; try with_reducible rfl))
                | fail
              try simp only [Act.put, List.getElem_toArray, List.getElem_cons_succ, List.getElem_cons_zero, List.setIfInBounds_toArray, List.set_cons_zero, List.set_cons_succ]
              refine wpAnyH_ready (rs := [3]) (by kernel_rfl) (by simp) ?_
              refine AllReadyH.cons rfl (fun K hK => ?_) AllReadyH.nil
              go_simp
              refine (CW.out _ (below_drew (Below.refl _ _))).mono ?_
              rintro e w6 ⟨v6, rfl, hv6, hb⟩
              have HCP6 := Aside0.mk ((HCP2.out.below (below_drew (Below.refl _ _))).below hb)
              have HB6 := Aside0.mk (below_two' (below_drew HBW.out) hb)
              have HV6 := Aside0.mk hv6
              obtain ⟨fz, ce⟩ := HCP6.out.cells 1
              obtain ⟨pe, ce⟩ := ce (by decide)
              obtain ⟨g6, _, _, e6, _⟩ := hv6
              subst e6
              clear hb hS
              have hS : (fun _ : World => True) w6 := trivial
              refine hK.out _ _ hS (fun _ => ?_)
              clear hK K
              try simp only [Act.put, List.getElem_toArray, List.getElem_cons_succ, List.getElem_cons_zero, List.setIfInBounds_toArray, List.set_cons_zero, List.set_cons_succ]
              first
                | (refine wpAnyH_take (i := 4) (v := undef) rfl (by kernel_rfl) (by kernel_rfl) (by kernel_rfl) (fun _ _ _ h => h) (Or.inr ⟨by rfl, rfl⟩) hS ?_)
                | (refine wpAnyH_take (i := 4) (v := ?_) rfl (by kernel_rfl) (by kernel_rfl) (by kernel_rfl) (fun _ _ _ h => h) (Or.inl ⟨by rfl, ?_⟩) hS ?_
                   rotate_left 1
                   · (intro w0 hSw; (try dsimp only at hSw); go_split_ands; go_simp; try with_reducible rfl))
                | fail
              try simp only [Act.put, List.getElem_toArray, List.getElem_cons_succ, List.getElem_cons_zero, List.setIfInBounds_toArray, List.set_cons_zero, List.set_cons_succ]
              first
                | (refine wpAnyH_take (i := 5) (v := undef) rfl (by kernel_rfl) (by kernel_rfl) (by kernel_rfl) (fun _ _ _ h => h) (Or.inr ⟨by rfl, rfl⟩) hS ?_)
                | (refine wpAnyH_take (i := 5) (v := ?_) rfl (by kernel_rfl) (by kernel_rfl) (by kernel_rfl) (fun _ _ _ h => h) (Or.inl ⟨by rfl, ?_⟩) hS ?_
                   rotate_left 1
                   · (intro w0 hSw; (try dsimp only at hSw); go_split_ands; go_simp; try with_reducible rfl))
                | fail
              try simp only [Act.put, List.getElem_toArray, List.getElem_cons_succ, List.getElem_cons_zero, List.setIfInBounds_toArray, List.set_cons_zero, List.set_cons_succ]
              first
                | (refine wpAnyH_take (i := 6) (v := undef) rfl (by kernel_rfl) (by kernel_rfl) (by kernel_rfl) (fun _ _ _ h => h) (Or.inr ⟨by rfl, rfl⟩) hS ?_)
                | (refine wpAnyH_take (i := 6) (v := ?_) rfl (by kernel_rfl) (by kernel_rfl) (by kernel_rfl) (fun _ _ _ h => h) (Or.inl ⟨by rfl, ?_⟩) hS ?_
                   rotate_left 1
                   · (intro w0 hSw; (try dsimp only at hSw); go_split_ands; go_simp; try with_reducible rfl))
                | fail
              try simp only [Act.put, List.getElem_toArray, List.getElem_cons_succ, List.getElem_cons_zero, List.setIfInBounds_toArray, List.set_cons_zero, List.set_cons_succ]
              first
                | (refine wpAnyH_take (i := 9) (v := undef) rfl (by kernel_rfl) (by kernel_rfl) (by kernel_rfl) (fun _ _ _ h => h) (Or.inr ⟨by rfl, rfl⟩) hS ?_)
                | (refine wpAnyH_take (i := 9) (v := ?_) rfl (by kernel_rfl) (by kernel_rfl) (by kernel_rfl) (fun _ _ _ h => h) (Or.inl ⟨by rfl, ?_⟩) hS ?_
                   rotate_left 1
                   · (intro w0 hSw; (try dsimp only at hSw); go_split_ands; go_simp; try with_reducible rfl))
                | fail
              try simp only [Act.put, List.getElem_toArray, List.getElem_cons_succ, List.getElem_cons_zero, List.setIfInBounds_toArray, List.set_cons_zero, List.set_cons_succ]
              refine wpAnyH_ready (rs := [10]) (by kernel_rfl) (by simp) ?_
              refine AllReadyH.cons rfl (fun K hK => ?_) AllReadyH.nil
              go_simp
              refine hK.out _ _ trivial (fun _ => ?_)
              clear hK K
              try simp only [Act.put, List.getElem_toArray, List.getElem_cons_succ, List.getElem_cons_zero, List.setIfInBounds_toArray, List.set_cons_zero, List.set_cons_succ]
              refine wpAnyH_done (by kernel_rfl) ?_ _
              go_wp2_with fail
              go_roundw
              case rel => exact ⟨2, by omega, rfl, ⟨HCP6.out.put1 HV6.out⟩, ⟨HB6.out.setCell HRB.out _⟩⟩
              case measure => simp [intOf]
        · rw [show ((2 : Nat) : Int) = 2 from rfl]
          obtain ⟨l, hl0⟩ : ∃ l : Nat → List Int, l = fun j => (ts.take j).map Tri.o := ⟨_, rfl⟩
          have HL0 : Aside0 (l 0 = []) := ⟨by rw [hl0]; rfl⟩
          have HLL : Aside0 (∀ j, (l j).length ≤ j) := ⟨fun j => by rw [hl0]; simp only [List.length_map, List.length_take]; omega⟩
          have HLS : Aside0 (∀ j, j < i → l (j + 1) = l j ++ [(ts.getD j z).o]) := ⟨fun j hj => by rw [hl0]; simp only; rw [take_snoc (z := z) (by rw [← HN.out]; exact hj), List.map_append]; rfl⟩
          have HLE : Aside0 (l i = ts.map Tri.o) := ⟨by rw [hl0]; simp only; rw [HN.out, List.take_length]⟩
          clear hl0
          go_wp2_with fail
          go_loopw [9, 49] (fun y x wx => ∃ j : Nat, j ≤ i ∧ x = .int .i64 j ∧ Aside0 (Kd.R (Kd.int .i64) 3 wx wr2.heap.size (fun _ => True) y (l j)) ∧ Aside0 (Below wr2.heap.size wr2 wx)) (fun _ x _ => i - (intOf x).toNat)
          case atStart => exact ⟨0, by omega, rfl, ⟨by rw [HL0.out]; exact Kd.R_nil _ _ _ _ _⟩, ⟨Below.refl _ _⟩⟩
          case round =>
            obtain ⟨wx, rfl⟩ : ∃ x, x = wr := ⟨wr, rfl⟩
            obtain ⟨j, hj, rfl, HO, HBJ⟩ := hrel
            by_cases hlj : j < i
            · have HBW := Aside0.mk (below_two' HB4.out HBJ.out)
              obtain ⟨ad, rfl, k0, k1, k2⟩ := at3_of (Kd.C_below HR.out HBW.out) j hlj z
              have HLJ := Aside0.mk (HLS.out j hlj)
              have HLB := Aside0.mk (HLL.out j)
              obtain ⟨t, ht⟩ : ∃ t, t = ts.getD j z := ⟨_, rfl⟩
              rw [← ht] at k0 k1 k2 HLJ
              have hj2 : (0 : Int) ≤ (j : Int) := by omega
              have hj3 : (j : Int) < (i : Int) := by omega
              have HO2 := Aside0.mk (Kd.R_alloc HO.out (.cells #[.int .i64 t.s, .int .i64 t.p, .int .i64 t.o] 54))
              have HBJ2 := Aside0.mk (below_alloc HBJ.out (.cells #[.int .i64 t.s, .int .i64 t.p, .int .i64 t.o] 54))
              clear ht HO HLS HLL
              go_wp2_with (first
                | ((with_reducible refine gate_builtin (b := .append) (xs := #[.tmp 53, .tmp 57]) rfl ?_); at_builtin; go_loud (refine Kd.R_append (Kd.int .i64) (w0 := wr2) wr2.heap.size rfl (.tmp 53) (.tmp 57) 26 3 (.int .i64 0) 8 rfl Try.underlying26 Bs.info_int rfl (by decide) (by omega) u9 (l j) t.o [.int .i64 t.o] (fun _ => True) (fun _ => False) rfl ?aX ?aP (fun _ hk => hk.elim) ?aF ?aO ?aB ?aS ?aL ?_); (case aP => exact rfl); (case aX => (refine Eq.trans (b := Value.slice (some ⟨wx.heap.size + 1, 0, none⟩) 1 1) rfl ?_; simp)); (case aB => exact HBJ2.out); (case aF => exact (fun _ _ => trivial)); (case aO => exact HO2.out); (case aS => exact HBJ2.out.size); (case aL => have := HLB.out; omega); intro v7 w7 ho hb hg hat; have HO7 := Aside0.mk ho; have HB7 := Aside0.mk hb; clear ho hb hg hat))
              go_roundw
              case rel => exact ⟨j + 1, by omega, by go_num, ⟨by rw [HLJ.out]; exact HO7.out⟩, HB7⟩
              case measure => simp [intOf]; omega
            · have hji : j = i := by omega
              subst hji
              have HO2 : Aside0 (Kd.R (Kd.int .i64) 3 wx wr2.heap.size (fun _ => True) u9 (ts.map Tri.o)) := ⟨by rw [← HLE.out]; exact HO.out⟩
              obtain ⟨A5, c5, e5⟩ := Kd.R_slice HO2.out
              subst e5
              have HBW := Aside0.mk (below_two' HB4.out HBJ.out)
              have HCP2 := Aside0.mk (HCP.out.below HBJ.out)
              obtain ⟨hm, hwf, hln⟩ := col_may Tri.o (fun t h => ok_2 h) (by rw [← HN.out]; exact HMT.out) (by rw [← HN.out]; exact hl)
              have CW := Aside0.mk (fun W (hb : Below wx.heap.size wx W) => Wv.new_ok A5 c5 (ts.map Tri.o) 10 W (Kd.C_below (Bs.reads_n HO2.out).2.2 hb) (Bs.reads_n HO2.out).2.1 hln hwf hm)
              simp only [List.length_map] at CW
              clear HLS HLL HLE HL0 HO HCP hm hwf hln
              go_upto_region 20 with (fail)
              have hS : (fun _ : World => True) wx.drew := trivial
              refine wp_region_held (S := (fun _ : World => True)) (by kernel_rfl) ?_
              change wpAnyH _ _ _ _ _ _ _ _ wx.drew
              first
                | (refine wpAnyH_take (i := 0) (v := undef) rfl (by kernel_rfl) (by kernel_rfl) (by kernel_rfl) (fun _ _ _ h => h) (Or.inr ⟨by rfl, rfl⟩) hS ?_)
                | (refine wpAnyH_take (i := 0) (v := ?_) rfl (by kernel_rfl) (by kernel_rfl) (by kernel_rfl) (fun _ _ _ h => h) (Or.inl ⟨by rfl, ?_⟩) hS ?_
                   rotate_left 1
                   · (intro w0 hSw; (try dsimp only at hSw); go_split_ands; go_simp; try with_reducible rfl))
                | fail
              try simp only [Act.put, List.getElem_toArray, List.getElem_cons_succ, List.getElem_cons_zero, List.setIfInBounds_toArray, List.set_cons_zero, List.set_cons_succ]
              first
                | (refine wpAnyH_take (i := 1) (v := undef) rfl (by kernel_rfl) (by kernel_rfl) (by kernel_rfl) (fun _ _ _ h => h) (Or.inr ⟨by rfl, rfl⟩) hS ?_)
                | (refine wpAnyH_take (i := 1) (v := ?_) rfl (by kernel_rfl) (by kernel_rfl) (by kernel_rfl) (fun _ _ _ h => h) (Or.inl ⟨by rfl, ?_⟩) hS ?_
                   rotate_left 1
                   · (intro w0 hSw; (try dsimp only at hSw); go_split_ands; go_simp; try with_reducible rfl))
                | fail
              try simp only [Act.put, List.getElem_toArray, List.getElem_cons_succ, List.getElem_cons_zero, List.setIfInBounds_toArray, List.set_cons_zero, List.set_cons_succ]
              first
                | (refine wpAnyH_take (i := 2) (v := undef) rfl (by kernel_rfl) (by kernel_rfl) (by kernel_rfl) (fun _ _ _ h => h) (Or.inr ⟨by rfl, rfl⟩) hS ?_)
                | (refine wpAnyH_take (i := 2) (v := ?_) rfl (by kernel_rfl) (by kernel_rfl) (by kernel_rfl) (fun _ _ _ h => h) (Or.inl ⟨by rfl, ?_⟩) hS ?_
                   rotate_left 1
                   · (intro w0 hSw; (try dsimp only at hSw); go_split_ands; go_simp; try with_reducible rfl))
                | fail
              try simp only [Act.put, List.getElem_toArray, List.getElem_cons_succ, List.getElem_cons_zero, List.setIfInBounds_toArray, List.set_cons_zero, List.set_cons_succ]
              first
                | (refine wpAnyH_take (i := 7) (v := undef) rfl (by kernel_rfl) (by kernel_rfl) (by kernel_rfl) (fun _ _ _ h => h) (Or.inr ⟨by rfl, rfl⟩) hS ?_)
                | (refine wpAnyH_take (i := 7) (v := ?_) rfl (by kernel_rfl) (by kernel_rfl) (by kernel_rfl) (fun _ _ _ h => h) (Or.inl ⟨by rfl, ?_⟩) hS ?_
                   rotate_left 1
                   · (intro w0 hSw; (try dsimp only at hSw); go_split_ands; go_simp; try with_reducible rfl))
                | fail
              try simp only [Act.put, List.getElem_toArray, List.getElem_cons_succ, List.getElem_cons_zero, List.setIfInBounds_toArray, List.set_cons_zero, List.set_cons_succ]
              first
                | (refine wpAnyH_take (i := 8) (v := undef) rfl (by kernel_rfl) (by kernel_rfl) (by kernel_rfl) (fun _ _ _ h => h) (Or.inr ⟨by rfl, rfl⟩) hS ?_)
                | (refine wpAnyH_take (i := 8) (v := ?_) rfl (by kernel_rfl) (by kernel_rfl) (by kernel_rfl) (fun _ _ _ h => h) (Or.inl ⟨by rfl, ?_⟩) hS ?_
                   rotate_left 1
                   · (intro w0 hSw; (try dsimp only at hSw); go_split_ands; go_simp; try with_reducible rfl))
                | fail
              try simp only [Act.put, List.getElem_toArray, List.getElem_cons_succ, List.getElem_cons_zero, List.setIfInBounds_toArray, List.set_cons_zero, List.set_cons_succ]
              refine wpAnyH_ready (rs := [3]) (by kernel_rfl) (by simp) ?_
              refine AllReadyH.cons rfl (fun K hK => ?_) AllReadyH.nil
              go_simp
              refine (CW.out _ (below_drew (Below.refl _ _))).mono ?_
              rintro e w6 ⟨v6, rfl, hv6, hb⟩
              have HCP6 := Aside0.mk ((HCP2.out.below (below_drew (Below.refl _ _))).below hb)
              have HB6 := Aside0.mk (below_two' (below_drew HBW.out) hb)
              have HV6 := Aside0.mk hv6
              obtain ⟨fz, ce⟩ := HCP6.out.cells 2
              obtain ⟨pe, ce⟩ := ce (by decide)
              obtain ⟨g6, _, _, e6, _⟩ := hv6
              subst e6
              clear hb hS
              have hS : (fun _ : World => True) w6 := trivial
              refine hK.out _ _ hS (fun _ => ?_)
              clear hK K
              try simp only [Act.put, List.getElem_toArray, List.getElem_cons_succ, List.getElem_cons_zero, List.setIfInBounds_toArray, List.set_cons_zero, List.set_cons_succ]
              first
                | (refine wpAnyH_take (i := 4) (v := undef) rfl (by kernel_rfl) (by kernel_rfl) (by kernel_rfl) (fun _ _ _ h => h) (Or.inr ⟨by rfl, rfl⟩) hS ?_)
                | (refine wpAnyH_take (i := 4) (v := ?_) rfl (by kernel_rfl) (by kernel_rfl) (by kernel_rfl) (fun _ _ _ h => h) (Or.inl ⟨by rfl, ?_⟩) hS ?_
                   rotate_left 1
                   · (intro w0 hSw; (try dsimp only at hSw); go_split_ands; go_simp; try with_reducible rfl))
                | fail
              try simp only [Act.put, List.getElem_toArray, List.getElem_cons_succ, List.getElem_cons_zero, List.setIfInBounds_toArray, List.set_cons_zero, List.set_cons_succ]
              first
                | (refine wpAnyH_take (i := 5) (v := undef) rfl (by kernel_rfl) (by kernel_rfl) (by kernel_rfl) (fun _ _ _ h => h) (Or.inr ⟨by rfl, rfl⟩) hS ?_)
                | (refine wpAnyH_take (i := 5) (v := ?_) rfl (by kernel_rfl) (by kernel_rfl) (by kernel_rfl) (fun _ _ _ h => h) (Or.inl ⟨by rfl, ?_⟩) hS ?_
                   rotate_left 1
                   · (intro w0 hSw; (try dsimp only at hSw); go_split_ands; go_simp; try with_reducible rfl))
                | fail
              try simp only [Act.put, List.getElem_toArray, List.getElem_cons_succ, List.getElem_cons_zero, List.setIfInBounds_toArray, List.set_cons_zero, List.set_cons_succ]
              first
                | (refine wpAnyH_take (i := 6) (v := undef) rfl (by kernel_rfl) (by kernel_rfl) (by kernel_rfl) (fun _ _ _ h => h) (Or.inr ⟨by rfl, rfl⟩) hS ?_)
                | (refine wpAnyH_take (i := 6) (v := ?_) rfl (by kernel_rfl) (by kernel_rfl) (by kernel_rfl) (fun _ _ _ h => h) (Or.inl ⟨by rfl, ?_⟩) hS ?_
                   rotate_left 1
                   · (intro w0 hSw; (try dsimp only at hSw); go_split_ands; go_simp; try with_reducible rfl))
                | fail
              try simp only [Act.put, List.getElem_toArray, List.getElem_cons_succ, List.getElem_cons_zero, List.setIfInBounds_toArray, List.set_cons_zero, List.set_cons_succ]
              first
                | (refine wpAnyH_take (i := 9) (v := undef) rfl (by kernel_rfl) (by kernel_rfl) (by kernel_rfl) (fun _ _ _ h => h) (Or.inr ⟨by rfl, rfl⟩) hS ?_)
                | (refine wpAnyH_take (i := 9) (v := ?_) rfl (by kernel_rfl) (by kernel_rfl) (by kernel_rfl) (fun _ _ _ h => h) (Or.inl ⟨by rfl, ?_⟩) hS ?_
                   rotate_left 1
                   · (intro w0 hSw; (try dsimp only at hSw); go_split_ands; go_simp; try with_reducible rfl))
                | fail
              try simp only [Act.put, List.getElem_toArray, List.getElem_cons_succ, List.getElem_cons_zero, List.setIfInBounds_toArray, List.set_cons_zero, List.set_cons_succ]
              refine wpAnyH_ready (rs := [10]) (by kernel_rfl) (by simp) ?_
              refine AllReadyH.cons rfl (fun K hK => ?_) AllReadyH.nil
              go_simp
              refine hK.out _ _ trivial (fun _ => ?_)
              clear hK K
              try simp only [Act.put, List.getElem_toArray, List.getElem_cons_succ, List.getElem_cons_zero, List.setIfInBounds_toArray, List.set_cons_zero, List.set_cons_succ]
              refine wpAnyH_done (by kernel_rfl) ?_ _
              go_wp2_with fail
              go_roundw
              case rel => exact ⟨3, by omega, rfl, ⟨HCP6.out.put2 HV6.out⟩, ⟨HB6.out.setCell HRB.out _⟩⟩
              case measure => simp [intOf]
        · have HRG := Aside0.mk HCP.out.ring
          have HOW := Aside0.mk (HCP.out.own HRB.out HA2.out)
          go_wp2_with fail
          go_ret2
          exact .inl ⟨HMY.out, _, rfl, HRG.out, HOW.out, HB4.out⟩
end Go.Proofs.Ytdijaobhijmknaa.Rg
