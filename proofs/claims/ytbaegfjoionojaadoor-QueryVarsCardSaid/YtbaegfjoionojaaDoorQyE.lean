/- The walks of the program's reader: atom, back. -/
import Derived.Test.YtbaegfjoionojaaDoorQyD
set_option linter.unusedSimpArgs false
set_option linter.unusedVariables false
namespace Go.Proofs.YtbaegfjoionojaaDoor.Qy
open Go Go.RowKit Go.Proofs.YtbaegfjoionojaaDoor.Tm Go.Proofs.YtbaegfjoionojaaDoorW.PrintWords

theorem iri_skip (s : ByteArray) (i : Nat) : iriS s (skip s i) = iriS s i := by
  unfold iriS
  rw [nx_skip, skip_skip]
theorem leaf_skip (s : ByteArray) (i : Nat) : leafS s (skip s i) = leafS s i := by
  unfold leafS
  rw [nx_skip, skip_skip, iri_skip]
def iriR (r : Res ByteArray) : Res Pth := match r with
  | .ok t j => .ok (.mk 1 t [] []) j
  | .no e a => .no e a
def closeR (s : ByteArray) (r : Res Pth) : Res Pth := match r with
  | .ok p j => if nx s j = 41 then .ok p (skip s j + 1) else .no 2 (skip s j)
  | .no e a => .no e a
def turnR (r : Res Pth) : Res Pth := match r with
  | .ok p j => .ok (.mk 2 ⟨#[]⟩ [] [p]) j
  | .no e a => .no e a
theorem leaf_iri {s : ByteArray} {i : Nat} (h : nx s i = 60) : leafS s i = iriR (iriS s i) := by
  unfold leafS iriR; rw [if_pos h]; cases iriS s i <;> rfl
theorem leaf_not {s : ByteArray} {i : Nat} (h : nx s i = 33) : leafS s i = negR (notS s (skip s i + 1)) := by
  unfold leafS negR; rw [if_neg (by omega), if_pos h]; cases notS s (skip s i + 1) <;> rfl
theorem leaf_no {s : ByteArray} {i : Nat} (h : nx s i ≠ 60) (h2 : nx s i ≠ 33) : leafS s i = .no 2 (skip s i) := by
  unfold leafS; rw [if_neg h, if_neg h2]
/-- What reading in brackets leaves. -/
def brS (s : ByteArray) (d : Nat) (i : Nat) : Res Pth := match d with
  | 0 => .no 3 (skip s i)
  | d + 1 => closeR s (pathS s (backS s d) (skip s i + 1))
def atomS (s : ByteArray) (d : Nat) (i : Nat) : Res Pth := if nx s i = 40 then brS s d i else leafS s i
theorem atom_skip (s : ByteArray) (d i : Nat) : atomS s d (skip s i) = atomS s d i := by
  unfold atomS brS
  rw [nx_skip, skip_skip, leaf_skip]
theorem back_atom {s : ByteArray} {d i : Nat} (h : nx s i ≠ 94) : backS s d i = atomS s d i := by
  unfold atomS
  cases d with
  | zero =>
    show (if nx s i = 94 ∨ nx s i = 40 then Res.no 3 (skip s i) else leafS s i) = (if nx s i = 40 then Res.no 3 (skip s i) else leafS s i)
    by_cases h2 : nx s i = 40
    · rw [if_pos (.inr h2), if_pos h2]
    · rw [if_neg (by omega), if_neg h2]
  | succ d =>
    unfold backS
    rw [if_neg h]
    by_cases h2 : nx s i = 40
    · rw [if_pos h2, if_pos h2, show brS s (d + 1) i = closeR s (pathS s (backS s d) (skip s i + 1)) from rfl]
      unfold closeR
      cases pathS s (backS s d) (skip s i + 1) <;> rfl
    · rw [if_neg h2, if_neg h2]
theorem back_turn {s : ByteArray} {d i : Nat} (h : nx s i = 94) : backS s (d + 1) i = turnR (backS s d (skip s i + 1)) := by
  rw [show backS s (d + 1) i = _ from rfl]
  conv => lhs; unfold backS
  rw [if_pos h]
  unfold turnR
  cases backS s d (skip s i + 1) <;> rfl
theorem back_full {s : ByteArray} {i : Nat} (h : nx s i = 94) : backS s 0 i = .no 3 (skip s i) := by
  unfold backS; rw [if_pos (.inl h)]
/-- A reading function's contract: at depth 5 - d. -/
def ParseC (fn : Nat) (b : Nat) (s : ByteArray) (w0 : World) (d : Nat) (F : Nat → Res Pth) : Prop :=
  ∀ (i : Nat) (w : World), Below w0.heap.size w0 w → Rq w b s i 0 0 → i ≤ s.size → Calls Tryd.prog fn #[.pointer (some ⟨b, 0, none⟩), .int .i64 (d : Int)] w (PostP b s w (F i))
theorem path_leaf {w : World} {ok : Nat → Prop} (k : Int) (t : ByteArray) : PathAt w ok (.mk k t [] []) [.int .i64 k, .string t, .slice none 0 0, .slice none 0 0] := by
  unfold PathAt
  exact ⟨none, 0, none, 0, rfl, by simp, by simp, by simp, ⟨by simp, fun h => by simp at h⟩, by unfold KidsAt; trivial⟩
/-- A path of one kid. -/
theorem path_one {w : World} {ok : Nat → Prop} {p : Pth} {k k1 : Int} {t t1 : ByteArray} {A1 B1 : Option Addr} {n1 c1 m1 d1 g : Nat} (hp : PathAt w ok p [.int .i64 k1, .string t1, .slice A1 n1 c1, .slice B1 m1 d1]) (hg : ok g) {ty : TypeId}
    (hc : w.heap[g]? = some (.cells #[.int .i64 k1, .string t1, .slice A1 n1 c1, .slice B1 m1 d1] ty (0, 0))) : PathAt w ok (.mk k t [] [p]) [.int .i64 k, .string t, .slice none 0 0, .slice (some ⟨g, 0, none⟩) 1 1] := by
  unfold PathAt
  refine ⟨none, 0, some ⟨g, 0, none⟩, 1, rfl, by simp, by simp, by simp, ⟨by simp, fun h => by simp at h⟩, KidsAt.of [p] fun i q hq => ?_⟩
  cases i with
  | succ i => simp at hq
  | zero =>
    obtain rfl : p = q := by simpa using hq
    refine ⟨g, 0, _, rfl, hg, fun j u hu => ?_, hp⟩
    rw [show 0 + (0 + 0) * 4 + j = j by omega, blk_cell hc j]
    simpa using hu
/-- A path of two kids. -/
theorem path_two {w : World} {ok : Nat → Prop} {p q : Pth} {k k1 k2 : Int} {t t1 t2 : ByteArray} {A1 B1 A2 B2 : Option Addr} {n1 c1 m1 d1 n2 c2 m2 d2 g : Nat} (hp : PathAt w ok p [.int .i64 k1, .string t1, .slice A1 n1 c1, .slice B1 m1 d1]) (hq : PathAt w ok q [.int .i64 k2, .string t2, .slice A2 n2 c2, .slice B2 m2 d2]) (hg : ok g) {ty : TypeId}
    (hc : w.heap[g]? = some (.cells #[.int .i64 k1, .string t1, .slice A1 n1 c1, .slice B1 m1 d1, .int .i64 k2, .string t2, .slice A2 n2 c2, .slice B2 m2 d2] ty (0, 0))) : PathAt w ok (.mk k t [] [p, q]) [.int .i64 k, .string t, .slice none 0 0, .slice (some ⟨g, 0, none⟩) 2 2] := by
  unfold PathAt
  refine ⟨none, 0, some ⟨g, 0, none⟩, 2, rfl, by simp, by simp, by simp, ⟨by simp, fun h => by simp at h⟩, KidsAt.of [p, q] fun i r hr => ?_⟩
  match i, hr with
  | 0, hr =>
    obtain rfl : p = r := by simpa using hr
    refine ⟨g, 0, _, rfl, hg, fun j u hu => ?_, hp⟩
    have hj : j < 4 := by
      have := (List.getElem?_eq_some_iff.1 hu).1
      simpa using this
    rw [show 0 + (0 + 0) * 4 + j = j by omega, blk_cell hc j]
    match j, hj, hu with
    | 0, _, hu => simpa using hu
    | 1, _, hu => simpa using hu
    | 2, _, hu => simpa using hu
    | 3, _, hu => simpa using hu
  | 1, hr =>
    obtain rfl : q = r := by simpa using hr
    refine ⟨g, 0, _, rfl, hg, fun j u hu => ?_, hq⟩
    have hj : j < 4 := by
      have := (List.getElem?_eq_some_iff.1 hu).1
      simpa using this
    rw [show 0 + (0 + 1) * 4 + j = 4 + j by omega, blk_cell hc (4 + j)]
    match j, hj, hu with
    | 0, _, hu => simpa using hu
    | 1, _, hu => simpa using hu
    | 2, _, hu => simpa using hu
    | 3, _, hu => simpa using hu
  | i + 2, hr => simp at hr
set_option maxRecDepth 100000 in
set_option maxHeartbeats 8000000 in
theorem atom_no (b : Nat) (s : ByteArray) (i d : Nat) (w0 w : World) (hR : Rq w b s i 0 0) (hs : s.size ≤ 50000) (hi : i ≤ s.size) (hT : Tabs w0) (hB : Below w0.heap.size w0 w) (hb : w0.heap.size ≤ b) (h1 : nx s i ≠ 60) (h2 : nx s i ≠ 33) (h3 : nx s i ≠ 40) :
    Calls Tryd.prog 156 #[.pointer (some ⟨b, 0, none⟩), .int .i64 (d : Int)] w (PostP b s w (.no 2 (skip s i))) := by
  have hbl := blk_lt hR
  have hs3 : (s.size : Int) ≤ 50000 := by omega
  obtain ⟨wa, hwa, HKa, HBa, HNa, HZa⟩ := res4 w hbl
  have HRa : Aside0 (Rq wa b s i 0 0) := ⟨hR.below HBa.out⟩
  have HHW : Aside0 (w.alloc (.cells #[.int .i64 0, .string ⟨#[]⟩, .slice none 0 0, .slice none 0 0] 25) = wa) := ⟨hwa.symm⟩
  have CN := Aside0.mk (next_ok b s i 0 wa HRa.out hs hi)
  have CF := Aside0.mk (fun W h => fails_ok b s (skip s i) 0 (skip s i) 0 2 W h)
  obtain ⟨j, hj⟩ : ∃ j, skip s i = j := ⟨_, rfl⟩
  rw [hj] at CN CF ⊢
  obtain ⟨x, hx⟩ : ∃ x, nx s i = x := ⟨_, rfl⟩
  rw [hx] at h1 h2 h3 CN
  have n1 : ((x : Int) == 60) = false := by rw [beq_eq_false_iff_ne]; omega
  have n2 : ((x : Int) == 33) = false := by rw [beq_eq_false_iff_ne]; omega
  have n3 : ((x : Int) == 40) = false := by rw [beq_eq_false_iff_ne]; omega
  clear hR hwa hj hx h1 h2 h3
  go_enter Tryd.func156, Tryd.ntmps156
  go_upto_region 1 with (fail)
  rw [HHW.out]
  go_wp2_with (first
    | (go_at_call 56; (with_reducible refine CN.out.mono ?_); rintro e w1 ⟨rfl, hr, hk⟩; have HR1 := Aside0.mk hr; have HK1 := Aside0.mk (HKa.out.trans hk); have HP1 := Aside0.mk (hk.blk HNa.out (by omega)); obtain ⟨c0, c1, c2, c3, f1, f2, f3⟩ := hr.cells; clear hr hk)
    | (go_at_call 57; (with_reducible refine (CF.out _ HR1.out).mono ?_); rintro e w2 ⟨rfl, hr, hk⟩; have HR2 := Aside0.mk hr; have HK2 := Aside0.mk (HK1.out.trans hk); have HP2 := Aside0.mk (hk.blk HP1.out (by omega)); have q0 := blk_cell HP2.out 0; have q1 := blk_cell HP2.out 1; have q2 := blk_cell HP2.out 2; have q3 := blk_cell HP2.out 3; simp at q0 q1 q2 q3; have k0 := blk_frozen HP2.out 0; have k1 := blk_frozen HP2.out 1; have k2 := blk_frozen HP2.out 2; have k3 := blk_frozen HP2.out 3; clear hr hk))
  obtain ⟨wf, hwf, HRf, HKf, HNf, HPf, HGf, HSf⟩ := fin4 HR2.out HK2.out hbl (Nat.le_refl _) HP2.out (.int .i64 0) (.string ⟨#[]⟩) (.slice none 0 0) (.slice none 0 0)
  rw [← hwf]
  have z0 := blk_cell HNf.out 0
  have z1 := blk_cell HNf.out 1
  have z2 := blk_cell HNf.out 2
  have z3 := blk_cell HNf.out 3
  simp at z0 z1 z2 z3
  clear hwf
  refine bodyPost_ret (by simp [results, Tryd.results156, go_sem, z0, z1, z2, z3]; try rfl) rfl ?_
  exact PostP.no HKf.out (by decide) HRf.out
set_option maxRecDepth 100000 in
set_option maxHeartbeats 8000000 in
theorem atom_full (b : Nat) (s : ByteArray) (i d : Nat) (w0 w : World) (hR : Rq w b s i 0 0) (hs : s.size ≤ 50000) (hi : i ≤ s.size) (hT : Tabs w0) (hB : Below w0.heap.size w0 w) (hb : w0.heap.size ≤ b) (h3 : nx s i = 40) (hd : 5 ≤ d) :
    Calls Tryd.prog 156 #[.pointer (some ⟨b, 0, none⟩), .int .i64 (d : Int)] w (PostP b s w (.no 3 (skip s i))) := by
  have hbl := blk_lt hR
  have hs3 : (s.size : Int) ≤ 50000 := by omega
  obtain ⟨wa, hwa, HKa, HBa, HNa, HZa⟩ := res4 w hbl
  have HRa : Aside0 (Rq wa b s i 0 0) := ⟨hR.below HBa.out⟩
  have HHW : Aside0 (w.alloc (.cells #[.int .i64 0, .string ⟨#[]⟩, .slice none 0 0, .slice none 0 0] 25) = wa) := ⟨hwa.symm⟩
  have CN := Aside0.mk (next_ok b s i 0 wa HRa.out hs hi)
  have CF := Aside0.mk (fun W h => fails_ok b s (skip s i) 0 (skip s i) 0 3 W h)
  obtain ⟨j, hj⟩ : ∃ j, skip s i = j := ⟨_, rfl⟩
  rw [hj] at CN CF ⊢
  rw [h3] at CN
  have n4 : (5 : Int) ≤ (d : Int) := by omega
  clear hR hwa hj h3
  go_enter Tryd.func156, Tryd.ntmps156
  go_upto_region 1 with (fail)
  rw [HHW.out]
  go_wp2_with (first
    | (go_at_call 56; (with_reducible refine CN.out.mono ?_); rintro e w1 ⟨rfl, hr, hk⟩; have HR1 := Aside0.mk hr; have HK1 := Aside0.mk (HKa.out.trans hk); have HP1 := Aside0.mk (hk.blk HNa.out (by omega)); obtain ⟨c0, c1, c2, c3, f1, f2, f3⟩ := hr.cells; clear hr hk)
    | (go_at_call 57; (with_reducible refine (CF.out _ HR1.out).mono ?_); rintro e w2 ⟨rfl, hr, hk⟩; have HR2 := Aside0.mk hr; have HK2 := Aside0.mk (HK1.out.trans hk); have HP2 := Aside0.mk (hk.blk HP1.out (by omega)); have q0 := blk_cell HP2.out 0; have q1 := blk_cell HP2.out 1; have q2 := blk_cell HP2.out 2; have q3 := blk_cell HP2.out 3; simp at q0 q1 q2 q3; have k0 := blk_frozen HP2.out 0; have k1 := blk_frozen HP2.out 1; have k2 := blk_frozen HP2.out 2; have k3 := blk_frozen HP2.out 3; clear hr hk))
  obtain ⟨wf, hwf, HRf, HKf, HNf, HPf, HGf, HSf⟩ := fin4 HR2.out HK2.out hbl (Nat.le_refl _) HP2.out (.int .i64 0) (.string ⟨#[]⟩) (.slice none 0 0) (.slice none 0 0)
  rw [← hwf]
  have z0 := blk_cell HNf.out 0
  have z1 := blk_cell HNf.out 1
  have z2 := blk_cell HNf.out 2
  have z3 := blk_cell HNf.out 3
  simp at z0 z1 z2 z3
  clear hwf
  refine bodyPost_ret (by simp [results, Tryd.results156, go_sem, z0, z1, z2, z3]; try rfl) rfl ?_
  exact PostP.no HKf.out (by decide) HRf.out
set_option maxRecDepth 100000 in
set_option maxHeartbeats 8000000 in
theorem atom_iri (b : Nat) (s : ByteArray) (i d : Nat) (w0 w : World) (hR : Rq w b s i 0 0) (hs : s.size ≤ 50000) (hi : i ≤ s.size) (hT : Tabs w0) (hB : Below w0.heap.size w0 w) (hb : w0.heap.size ≤ b) (h1 : nx s i = 60) :
    Calls Tryd.prog 156 #[.pointer (some ⟨b, 0, none⟩), .int .i64 (d : Int)] w (PostP b s w (iriR (iriS s i))) := by
  have hbl := blk_lt hR
  have hs3 : (s.size : Int) ≤ 50000 := by omega
  obtain ⟨wa, hwa, HKa, HBa, HNa, HZa⟩ := res4 w hbl
  have HRa : Aside0 (Rq wa b s i 0 0) := ⟨hR.below HBa.out⟩
  have HHW : Aside0 (w.alloc (.cells #[.int .i64 0, .string ⟨#[]⟩, .slice none 0 0, .slice none 0 0] 25) = wa) := ⟨hwa.symm⟩
  have CN := Aside0.mk (next_ok b s i 0 wa HRa.out hs hi)
  rw [h1] at CN
  have CI := Aside0.mk (fun W (hR : Rq W b s (skip s i) 0 0) (hB : Below w0.heap.size w0 W) => iri_res b s (skip s i) 0 w0 W hR hs (skip_le hi) hT hB hb)
  rw [iri_skip] at CI
  obtain ⟨r, hr⟩ : ∃ r, iriS s i = r := ⟨_, rfl⟩
  rw [hr] at CI ⊢
  clear hR hwa h1 hr
  go_enter Tryd.func156, Tryd.ntmps156
  go_upto_region 1 with (fail)
  rw [HHW.out]
  go_wp2_with (first
    | (go_at_call 56; (with_reducible refine CN.out.mono ?_); rintro e w1 ⟨rfl, hr, hk⟩; have HR1 := Aside0.mk hr; have HK1 := Aside0.mk (HKa.out.trans hk); have HP1 := Aside0.mk (hk.blk HNa.out (by omega)); obtain ⟨c0, c1, c2, c3, f1, f2, f3⟩ := hr.cells; have HB1 := Aside0.mk (hB.trans (HK1.out.1.mono hb)); clear hr hk)
    | (go_at_call 164; (with_reducible refine (CI.out _ HR1.out HB1.out).mono ?_); rintro e w2 ⟨t, rfl, hk, hok, hno⟩; have HK2 := Aside0.mk (HK1.out.trans hk); have HOK2 := Aside0.mk hok; have HNO2 := Aside0.mk hno; have HP2 := Aside0.mk (hk.blk HP1.out (by omega)); have q0 := blk_cell HP2.out 0; have q1 := blk_cell HP2.out 1; have q2 := blk_cell HP2.out 2; have q3 := blk_cell HP2.out 3; simp at q0 q1 q2 q3; have k0 := blk_frozen HP2.out 0; have k1 := blk_frozen HP2.out 1; have k2 := blk_frozen HP2.out 2; have k3 := blk_frozen HP2.out 3; clear hk hok hno))
  cases r with
  | ok t' j =>
    obtain ⟨rfl, hr3⟩ := HOK2.out t' j rfl
    obtain ⟨wf, hwf, HRf, HKf, HNf, HPf, HGf, HSf⟩ := fin4 hr3 HK2.out hbl (Nat.le_refl _) HP2.out (.int .i64 1) (.string t) (.slice none 0 0) (.slice none 0 0)
    rw [← hwf]
    have z0 := blk_cell HNf.out 0
    have z1 := blk_cell HNf.out 1
    have z2 := blk_cell HNf.out 2
    have z3 := blk_cell HNf.out 3
    simp at z0 z1 z2 z3
    clear hwf
    refine bodyPost_ret (by simp [results, Tryd.results156, go_sem, z0, z1, z2, z3]; try rfl) rfl ?_
    exact PostP.ok HKf.out HRf.out (path_leaf 1 t)
  | no er a =>
    obtain ⟨he, i3, hr3⟩ := HNO2.out er a rfl
    obtain ⟨wf, hwf, HRf, HKf, HNf, HPf, HGf, HSf⟩ := fin4 hr3 HK2.out hbl (Nat.le_refl _) HP2.out (.int .i64 1) (.string t) (.slice none 0 0) (.slice none 0 0)
    rw [← hwf]
    have z0 := blk_cell HNf.out 0
    have z1 := blk_cell HNf.out 1
    have z2 := blk_cell HNf.out 2
    have z3 := blk_cell HNf.out 3
    simp at z0 z1 z2 z3
    clear hwf
    refine bodyPost_ret (by simp [results, Tryd.results156, go_sem, z0, z1, z2, z3]; try rfl) rfl ?_
    exact PostP.no HKf.out he HRf.out
set_option maxRecDepth 100000 in
set_option maxHeartbeats 8000000 in
theorem atom_not (b : Nat) (s : ByteArray) (i d : Nat) (w0 w : World) (hR : Rq w b s i 0 0) (hs : s.size ≤ 50000) (hi : i ≤ s.size) (hT : Tabs w0) (hB : Below w0.heap.size w0 w) (hb : w0.heap.size ≤ b) (h1 : nx s i = 33) :
    Calls Tryd.prog 156 #[.pointer (some ⟨b, 0, none⟩), .int .i64 (d : Int)] w (PostP b s w (negR (notS s (skip s i + 1)))) := by
  have hbl := blk_lt hR
  have hs3 : (s.size : Int) ≤ 50000 := by omega
  obtain ⟨wa, hwa, HKa, HBa, HNa, HZa⟩ := res4 w hbl
  have HRa : Aside0 (Rq wa b s i 0 0) := ⟨hR.below HBa.out⟩
  have HHW : Aside0 (w.alloc (.cells #[.int .i64 0, .string ⟨#[]⟩, .slice none 0 0, .slice none 0 0] 25) = wa) := ⟨hwa.symm⟩
  have CN := Aside0.mk (next_ok b s i 0 wa HRa.out hs hi)
  have hx := nx_in (s := s) (i := i) (by rw [h1]; decide)
  rw [h1] at CN
  have CI := Aside0.mk (fun W (hR : Rq W b s (skip s i + 1) 0 0) (hB : Below w0.heap.size w0 W) => not_res b s (skip s i + 1) w0 W hR hs (by omega) hT hB hb)
  obtain ⟨j, hj⟩ : ∃ j, skip s i = j := ⟨_, rfl⟩
  rw [hj] at hx CN CI ⊢
  have g1 : (j : Int) < (s.size : Int) := by omega
  obtain ⟨r, hr⟩ : ∃ r, negR (notS s (j + 1)) = r := ⟨_, rfl⟩
  rw [hr] at CI ⊢
  clear hR hwa h1 hr hj hx
  go_enter Tryd.func156, Tryd.ntmps156
  go_upto_region 1 with (fail)
  rw [HHW.out]
  go_upto_region 6 with (go_at_call 56; (with_reducible refine CN.out.mono ?_); rintro e w1 ⟨rfl, hr, hk⟩; have HR1 := Aside0.mk hr; have HK1 := Aside0.mk (HKa.out.trans hk); have HP1 := Aside0.mk (hk.blk HNa.out (by omega)); obtain ⟨c0, c1, c2, c3, f1, f2, f3⟩ := hr.cells; clear hr hk)
  obtain ⟨we, hwe⟩ : ∃ we, we = w1.setCell ⟨b, 1, none⟩ (.int .i64 ((j : Int) + 1)) := ⟨_, rfl⟩
  rw [← hwe]
  have HRe : Aside0 (Rq we b s (j + 1) 0 0) := ⟨by rw [hwe]; exact Rq.to HR1.out (j + 1) _ (by simp)⟩
  have HKe : Aside0 (Kb b w we) := ⟨by rw [hwe]; exact HK1.out.trans (Kb.set _ _ _)⟩
  have HPe : Aside0 (we.heap[w.heap.size]? = some (.cells #[.int .i64 0, .string ⟨#[]⟩, .slice none 0 0, .slice none 0 0] 25 (0, 0))) := ⟨by rw [hwe]; exact blk_far (p := ⟨b, 1, none⟩) HP1.out (by show w.heap.size ≠ b; omega) _⟩
  have HBe := Aside0.mk (hB.trans (HKe.out.1.mono hb))
  clear hwe c0 c1 c2 c3 f1 f2 f3
  go_wp2_with (go_at_call 165; (with_reducible refine (CI.out _ HRe.out HBe.out).mono ?_); rintro e w2 ⟨k', t', A', n', c', B', m', d', rfl, hk, hok, hno⟩; have HK2 := Aside0.mk (HKe.out.trans hk); have HOK2 := Aside0.mk hok; have HNO2 := Aside0.mk hno; have HP2 := Aside0.mk (hk.blk HPe.out (by omega)); have hsz := HKe.out.size; have hlt := blk_lt HPe.out; have q0 := blk_cell HP2.out 0; have q1 := blk_cell HP2.out 1; have q2 := blk_cell HP2.out 2; have q3 := blk_cell HP2.out 3; simp at q0 q1 q2 q3; have k0 := blk_frozen HP2.out 0; have k1 := blk_frozen HP2.out 1; have k2 := blk_frozen HP2.out 2; have k3 := blk_frozen HP2.out 3; clear hk hok hno)
  cases r with
  | ok p j2 =>
    obtain ⟨hr3, hp3⟩ := HOK2.out p j2 rfl
    obtain ⟨wf, hwf, HRf, HKf, HNf, HPf, HGf, HSf⟩ := fin4 hr3 HK2.out hbl (Nat.le_refl _) HP2.out (.int .i64 k') (.string t') ((.slice A' n' c')) ((.slice B' m' d'))
    rw [← hwf]
    have z0 := blk_cell HNf.out 0
    have z1 := blk_cell HNf.out 1
    have z2 := blk_cell HNf.out 2
    have z3 := blk_cell HNf.out 3
    simp at z0 z1 z2 z3
    clear hwf
    refine bodyPost_ret (by simp [results, Tryd.results156, go_sem, z0, z1, z2, z3]; try rfl) rfl ?_
    exact PostP.ok HKf.out HRf.out (PathAt.mono (fun g hg _ => by omega) _ (HPf.out _ _ _ (fun g hg => by omega) hp3))
  | no er a =>
    obtain ⟨he, i3, hr3⟩ := HNO2.out er a rfl
    obtain ⟨wf, hwf, HRf, HKf, HNf, HPf, HGf, HSf⟩ := fin4 hr3 HK2.out hbl (Nat.le_refl _) HP2.out (.int .i64 k') (.string t') ((.slice A' n' c')) ((.slice B' m' d'))
    rw [← hwf]
    have z0 := blk_cell HNf.out 0
    have z1 := blk_cell HNf.out 1
    have z2 := blk_cell HNf.out 2
    have z3 := blk_cell HNf.out 3
    simp at z0 z1 z2 z3
    clear hwf
    refine bodyPost_ret (by simp [results, Tryd.results156, go_sem, z0, z1, z2, z3]; try rfl) rfl ?_
    exact PostP.no HKf.out he HRf.out
set_option maxRecDepth 100000 in
set_option maxHeartbeats 8000000 in
theorem atom_br (b : Nat) (s : ByteArray) (i d : Nat) (w0 w : World) (hR : Rq w b s i 0 0) (hs : s.size ≤ 50000) (hi : i ≤ s.size) (hT : Tabs w0) (hB : Below w0.heap.size w0 w) (hb : w0.heap.size ≤ b) (h1 : nx s i = 40) (hd : d < 5) (F : Nat → Res Pth) (hF : ParseC 55 b s w0 (d + 1) F) (hAdv : ∀ i, Adv s i (F i)) :
    Calls Tryd.prog 156 #[.pointer (some ⟨b, 0, none⟩), .int .i64 (d : Int)] w (PostP b s w (closeR s (F (skip s i + 1)))) := by
  have hbl := blk_lt hR
  have hs3 : (s.size : Int) ≤ 50000 := by omega
  obtain ⟨wa, hwa, HKa, HBa, HNa, HZa⟩ := res4 w hbl
  have HRa : Aside0 (Rq wa b s i 0 0) := ⟨hR.below HBa.out⟩
  have HHW : Aside0 (w.alloc (.cells #[.int .i64 0, .string ⟨#[]⟩, .slice none 0 0, .slice none 0 0] 25) = wa) := ⟨hwa.symm⟩
  have CN := Aside0.mk (next_ok b s i 0 wa HRa.out hs hi)
  have hx := nx_in (s := s) (i := i) (by rw [h1]; decide)
  rw [h1] at CN
  have CI : Aside0 (∀ W, Rq W b s (skip s i + 1) 0 0 → Below w0.heap.size w0 W → Calls Tryd.prog 55 #[.pointer (some ⟨b, 0, none⟩), .int .i64 ((d : Int) + 1)] W (PostP b s W (F (skip s i + 1)))) := ⟨fun W hR hB => by
    have := hF (skip s i + 1) W hB hR (by omega)
    rwa [show (((d + 1 : Nat)) : Int) = (d : Int) + 1 by omega] at this⟩
  obtain ⟨j, hj⟩ : ∃ j, skip s i = j := ⟨_, rfl⟩
  rw [hj] at hx CN CI ⊢
  have g1 : (j : Int) < (s.size : Int) := by omega
  have g2 : (d : Int) < 5 := by omega
  obtain ⟨r, hr⟩ : ∃ r, F (j + 1) = r := ⟨_, rfl⟩
  have HAdv := Aside0.mk (hr ▸ hAdv (j + 1))
  rw [hr] at CI ⊢
  clear hR hwa h1 hr hj hx hF hAdv
  go_enter Tryd.func156, Tryd.ntmps156
  go_upto_region 1 with (fail)
  rw [HHW.out]
  go_upto_region 11 with (go_at_call 56; (with_reducible refine CN.out.mono ?_); rintro e w1 ⟨rfl, hr, hk⟩; have HR1 := Aside0.mk hr; have HK1 := Aside0.mk (HKa.out.trans hk); have HP1 := Aside0.mk (hk.blk HNa.out (by omega)); obtain ⟨c0, c1, c2, c3, f1, f2, f3⟩ := hr.cells; clear hr hk)
  obtain ⟨we, hwe⟩ : ∃ we, we = w1.setCell ⟨b, 1, none⟩ (.int .i64 ((j : Int) + 1)) := ⟨_, rfl⟩
  rw [← hwe]
  have HRe : Aside0 (Rq we b s (j + 1) 0 0) := ⟨by rw [hwe]; exact Rq.to HR1.out (j + 1) _ (by simp)⟩
  have HKe : Aside0 (Kb b w we) := ⟨by rw [hwe]; exact HK1.out.trans (Kb.set _ _ _)⟩
  have HPe : Aside0 (we.heap[w.heap.size]? = some (.cells #[.int .i64 0, .string ⟨#[]⟩, .slice none 0 0, .slice none 0 0] 25 (0, 0))) := ⟨by rw [hwe]; exact blk_far (p := ⟨b, 1, none⟩) HP1.out (by show w.heap.size ≠ b; omega) _⟩
  have HBe := Aside0.mk (hB.trans (HKe.out.1.mono hb))
  clear hwe c0 c1 c2 c3 f1 f2 f3
  go_upto_region 12 with (go_at_call 55; (with_reducible refine (CI.out _ HRe.out HBe.out).mono ?_); rintro e w2 ⟨k', t', A', n', c', B', m', d', rfl, hk, hok, hno⟩; have HK2 := Aside0.mk (HKe.out.trans hk); have HOK2 := Aside0.mk hok; have HNO2 := Aside0.mk hno; have HP2 := Aside0.mk (hk.blk HPe.out (by omega)); have hlt := blk_lt HPe.out; have hlt2 := blk_lt HP2.out; clear hk hok hno)
  obtain ⟨w3, hw3, HB3⟩ : ∃ w3, w3 = w2.alloc (.cells #[.int .i64 k', .string t', .slice A' n' c', .slice B' m' d'] 25) ∧ Aside0 (Below w2.heap.size w2 w3) := ⟨_, rfl, ⟨below_alloc (Below.refl _ _) _⟩⟩
  rw [← hw3]
  have HQ3 : Aside0 (w3.heap[w2.heap.size]? = some (.cells #[.int .i64 k', .string t', .slice A' n' c', .slice B' m' d'] 25 (0, 0))) := ⟨by rw [hw3]; exact heap_alloc_new _ _⟩
  have HP3 := Aside0.mk (blk_below HP2.out HB3.out)
  have HK3 := Aside0.mk (HK2.out.trans (Kb.of HB3.out (by omega)))
  obtain ⟨Q, hQ⟩ : ∃ Q, w2.heap.size = Q := ⟨_, rfl⟩
  have HQ := Aside0.mk hQ
  rw [hQ] at HQ3 hlt2
  rw [hQ]
  clear hw3 hQ
  cases r with
  | ok p j2 =>
    obtain ⟨hr3, hp3⟩ := HOK2.out p j2 rfl
    have ha := HAdv.out p j2 rfl
    have HPA := Aside0.mk (PathAt.mono (ok' := fun g => w.heap.size + 1 ≤ g ∧ g ≠ Q) (fun g hg hl => ⟨by omega, by have := HQ.out; omega⟩) _ hp3)
    have HPA3 := Aside0.mk (HPA.out.below HB3.out)
    have HRv := Aside0.mk (hr3.below HB3.out)
    clear hr3 hp3
    by_cases h41 : nx s j2 = 41
    · have hc : closeR s (.ok p j2) = .ok p (skip s j2 + 1) := by show (if nx s j2 = 41 then _ else _) = _; rw [if_pos h41]
      have CM := Aside0.mk (must_yes b s j2 0 41 0 w3 HRv.out hs ha.2 h41 (by decide))
      simp only [Int.cast_ofNat_Int] at CM
      go_wp2_with (go_at_call 166; (with_reducible refine CM.out.mono ?_); rintro e w4 ⟨rfl, hr, hk⟩; have HR4 := Aside0.mk hr; have HK4 := Aside0.mk (HK3.out.trans hk); have HKm := Aside0.mk hk; have HP4 := Aside0.mk (hk.blk HP3.out (by omega)); have HQ4 := Aside0.mk (hk.blk HQ3.out (by omega)); have q0 := blk_cell HP4.out 0; have q1 := blk_cell HP4.out 1; have q2 := blk_cell HP4.out 2; have q3 := blk_cell HP4.out 3; simp at q0 q1 q2 q3; have k0 := blk_frozen HP4.out 0; have k1 := blk_frozen HP4.out 1; have k2 := blk_frozen HP4.out 2; have k3 := blk_frozen HP4.out 3; have m0 := blk_cell HQ4.out 0; have m1 := blk_cell HQ4.out 1; have m2 := blk_cell HQ4.out 2; have m3 := blk_cell HQ4.out 3; simp at m0 m1 m2 m3; have l0 := blk_frozen HQ4.out 0; have l1 := blk_frozen HQ4.out 1; have l2 := blk_frozen HQ4.out 2; have l3 := blk_frozen HQ4.out 3; clear hr hk)
      obtain ⟨wf, hwf, HRf, HKf, HNf, HPf, HGf, HSf⟩ := fin4 HR4.out HK4.out hbl (Nat.le_refl _) HP4.out (.int .i64 k') (.string t') ((.slice A' n' c')) ((.slice B' m' d'))
      rw [← hwf]
      have z0 := blk_cell HNf.out 0
      have z1 := blk_cell HNf.out 1
      have z2 := blk_cell HNf.out 2
      have z3 := blk_cell HNf.out 3
      simp at z0 z1 z2 z3
      clear hwf
      refine bodyPost_ret (by simp [results, Tryd.results156, go_sem, z0, z1, z2, z3]; try rfl) rfl ?_
      rw [hc]
      exact PostP.ok HKf.out HRf.out (PathAt.mono (fun g hg _ => by omega) _ (HPf.out _ _ _ (fun g hg => by omega) (HKm.out.path (fun g hg => by omega) HPA3.out)))
    · have hc : closeR s (.ok p j2) = .no 2 (skip s j2) := by show (if nx s j2 = 41 then _ else _) = _; rw [if_neg h41]
      have CM := Aside0.mk (must_no b s j2 0 41 0 w3 HRv.out hs ha.2 h41)
      simp only [Int.cast_ofNat_Int] at CM
      go_wp2_with (go_at_call 166; (with_reducible refine CM.out.mono ?_); rintro e w4 ⟨rfl, hr, hk⟩; have HR4 := Aside0.mk hr; have HK4 := Aside0.mk (HK3.out.trans hk); have HKm := Aside0.mk hk; have HP4 := Aside0.mk (hk.blk HP3.out (by omega)); have HQ4 := Aside0.mk (hk.blk HQ3.out (by omega)); have q0 := blk_cell HP4.out 0; have q1 := blk_cell HP4.out 1; have q2 := blk_cell HP4.out 2; have q3 := blk_cell HP4.out 3; simp at q0 q1 q2 q3; have k0 := blk_frozen HP4.out 0; have k1 := blk_frozen HP4.out 1; have k2 := blk_frozen HP4.out 2; have k3 := blk_frozen HP4.out 3; have m0 := blk_cell HQ4.out 0; have m1 := blk_cell HQ4.out 1; have m2 := blk_cell HQ4.out 2; have m3 := blk_cell HQ4.out 3; simp at m0 m1 m2 m3; have l0 := blk_frozen HQ4.out 0; have l1 := blk_frozen HQ4.out 1; have l2 := blk_frozen HQ4.out 2; have l3 := blk_frozen HQ4.out 3; clear hr hk)
      obtain ⟨wf, hwf, HRf, HKf, HNf, HPf, HGf, HSf⟩ := fin4 HR4.out HK4.out hbl (Nat.le_refl _) HP4.out (.int .i64 k') (.string t') ((.slice A' n' c')) ((.slice B' m' d'))
      rw [← hwf]
      have z0 := blk_cell HNf.out 0
      have z1 := blk_cell HNf.out 1
      have z2 := blk_cell HNf.out 2
      have z3 := blk_cell HNf.out 3
      simp at z0 z1 z2 z3
      clear hwf
      refine bodyPost_ret (by simp [results, Tryd.results156, go_sem, z0, z1, z2, z3]; try rfl) rfl ?_
      rw [hc]
      exact PostP.no HKf.out (by decide) HRf.out
  | no er a =>
    obtain ⟨he, i3, hr3⟩ := HNO2.out er a rfl
    have hc : closeR s (.no er a) = .no er a := rfl
    have HRv := Aside0.mk (hr3.below HB3.out)
    clear hr3
    have CM := Aside0.mk (must_err b s i3 a 41 er w3 HRv.out he (by decide))
    simp only [Int.cast_ofNat_Int] at CM
    go_wp2_with (go_at_call 166; (with_reducible refine CM.out.mono ?_); rintro e w4 ⟨rfl, hr, hk⟩; have HR4 := Aside0.mk hr; have HK4 := Aside0.mk (HK3.out.trans hk); have HKm := Aside0.mk hk; have HP4 := Aside0.mk (hk.blk HP3.out (by omega)); have HQ4 := Aside0.mk (hk.blk HQ3.out (by omega)); have q0 := blk_cell HP4.out 0; have q1 := blk_cell HP4.out 1; have q2 := blk_cell HP4.out 2; have q3 := blk_cell HP4.out 3; simp at q0 q1 q2 q3; have k0 := blk_frozen HP4.out 0; have k1 := blk_frozen HP4.out 1; have k2 := blk_frozen HP4.out 2; have k3 := blk_frozen HP4.out 3; have m0 := blk_cell HQ4.out 0; have m1 := blk_cell HQ4.out 1; have m2 := blk_cell HQ4.out 2; have m3 := blk_cell HQ4.out 3; simp at m0 m1 m2 m3; have l0 := blk_frozen HQ4.out 0; have l1 := blk_frozen HQ4.out 1; have l2 := blk_frozen HQ4.out 2; have l3 := blk_frozen HQ4.out 3; clear hr hk)
    obtain ⟨wf, hwf, HRf, HKf, HNf, HPf, HGf, HSf⟩ := fin4 HR4.out HK4.out hbl (Nat.le_refl _) HP4.out (.int .i64 k') (.string t') ((.slice A' n' c')) ((.slice B' m' d'))
    rw [← hwf]
    have z0 := blk_cell HNf.out 0
    have z1 := blk_cell HNf.out 1
    have z2 := blk_cell HNf.out 2
    have z3 := blk_cell HNf.out 3
    simp at z0 z1 z2 z3
    clear hwf
    refine bodyPost_ret (by simp [results, Tryd.results156, go_sem, z0, z1, z2, z3]; try rfl) rfl ?_
    rw [hc]
    exact PostP.no HKf.out he HRf.out
theorem atom_any (b : Nat) (s : ByteArray) (w0 : World) (hs : s.size ≤ 50000) (hT : Tabs w0) (hb : w0.heap.size ≤ b) (n : Nat) (hn : n ≤ 5) (hP : ∀ m, n = m + 1 → ParseC 55 b s w0 (5 - m) (pathS s (backS s m))) :
    ParseC 156 b s w0 (5 - n) (atomS s n) := by
  intro i w hB hR hi
  unfold atomS
  by_cases h1 : nx s i = 40
  · rw [if_pos h1]
    cases n with
    | zero => exact atom_full b s i 5 w0 w hR hs hi hT hB hb h1 (by decide)
    | succ m =>
      have := atom_br b s i (5 - (m + 1)) w0 w hR hs hi hT hB hb h1 (by omega) (pathS s (backS s m)) (by
        have := hP m rfl
        rwa [show 5 - (m + 1) + 1 = 5 - m by omega]) (path_adv (back_adv s m))
      exact this
  · rw [if_neg h1]
    by_cases h2 : nx s i = 60
    · rw [leaf_iri h2]
      exact atom_iri b s i _ w0 w hR hs hi hT hB hb h2
    · by_cases h3 : nx s i = 33
      · rw [leaf_not h3]
        exact atom_not b s i _ w0 w hR hs hi hT hB hb h3
      · rw [leaf_no h2 h3]
        exact atom_no b s i _ w0 w hR hs hi hT hB hb h2 h3 h1
set_option maxRecDepth 100000 in
set_option maxHeartbeats 8000000 in
theorem back_not (b : Nat) (s : ByteArray) (i d : Nat) (w0 w : World) (hR : Rq w b s i 0 0) (hs : s.size ≤ 50000) (hi : i ≤ s.size) (hT : Tabs w0) (hB : Below w0.heap.size w0 w) (hb : w0.heap.size ≤ b) (h1 : nx s i ≠ 94) (F : Nat → Res Pth) (hF : ParseC 156 b s w0 d F) (hsk : F (skip s i) = F i) :
    Calls Tryd.prog 138 #[.pointer (some ⟨b, 0, none⟩), .int .i64 (d : Int)] w (PostP b s w (F i)) := by
  have hbl := blk_lt hR
  have hs3 : (s.size : Int) ≤ 50000 := by omega
  obtain ⟨wa, hwa, HKa, HBa, HNa, HZa⟩ := res4 w hbl
  have HRa : Aside0 (Rq wa b s i 0 0) := ⟨hR.below HBa.out⟩
  have HHW : Aside0 (w.alloc (.cells #[.int .i64 0, .string ⟨#[]⟩, .slice none 0 0, .slice none 0 0] 25) = wa) := ⟨hwa.symm⟩
  have CN := Aside0.mk (next_ok b s i 0 wa HRa.out hs hi)
  have CI : Aside0 (∀ W, Rq W b s (skip s i) 0 0 → Below w0.heap.size w0 W → Calls Tryd.prog 156 #[.pointer (some ⟨b, 0, none⟩), .int .i64 (d : Int)] W (PostP b s W (F i))) := ⟨fun W hR hB => by
    have := hF (skip s i) W hB hR (skip_le hi)
    rwa [hsk] at this⟩
  obtain ⟨x, hx⟩ : ∃ x, nx s i = x := ⟨_, rfl⟩
  rw [hx] at h1 CN
  have n1 : ((x : Int) != 94) = true := by rw [bne_iff_ne]; omega
  obtain ⟨r, hr⟩ : ∃ r, F i = r := ⟨_, rfl⟩
  rw [hr] at CI ⊢
  clear hR hwa h1 hr hx hF hsk
  go_enter Tryd.func138, Tryd.ntmps138
  go_upto_region 1 with (fail)
  rw [HHW.out]
  go_wp2_with (first
    | (go_at_call 56; (with_reducible refine CN.out.mono ?_); rintro e w1 ⟨rfl, hr, hk⟩; have HR1 := Aside0.mk hr; have HK1 := Aside0.mk (HKa.out.trans hk); have HP1 := Aside0.mk (hk.blk HNa.out (by omega)); obtain ⟨c0, c1, c2, c3, f1, f2, f3⟩ := hr.cells; have HB1 := Aside0.mk (hB.trans (HK1.out.1.mono hb)); clear hr hk)
    | (go_at_call 156; (with_reducible refine (CI.out _ HR1.out HB1.out).mono ?_); rintro e w2 ⟨k', t', A', n', c', B', m', d', rfl, hk, hok, hno⟩; have HK2 := Aside0.mk (HK1.out.trans hk); have HOK2 := Aside0.mk hok; have HNO2 := Aside0.mk hno; have HP2 := Aside0.mk (hk.blk HP1.out (by omega)); have hlt := blk_lt HP1.out; have q0 := blk_cell HP2.out 0; have q1 := blk_cell HP2.out 1; have q2 := blk_cell HP2.out 2; have q3 := blk_cell HP2.out 3; simp at q0 q1 q2 q3; have k0 := blk_frozen HP2.out 0; have k1 := blk_frozen HP2.out 1; have k2 := blk_frozen HP2.out 2; have k3 := blk_frozen HP2.out 3; clear hk hok hno))
  cases r with
  | ok p j2 =>
    obtain ⟨hr3, hp3⟩ := HOK2.out p j2 rfl
    obtain ⟨wf, hwf, HRf, HKf, HNf, HPf, HGf, HSf⟩ := fin4 hr3 HK2.out hbl (Nat.le_refl _) HP2.out (.int .i64 k') (.string t') ((.slice A' n' c')) ((.slice B' m' d'))
    rw [← hwf]
    have z0 := blk_cell HNf.out 0
    have z1 := blk_cell HNf.out 1
    have z2 := blk_cell HNf.out 2
    have z3 := blk_cell HNf.out 3
    simp at z0 z1 z2 z3
    clear hwf
    refine bodyPost_ret (by simp [results, Tryd.results138, go_sem, z0, z1, z2, z3]; try rfl) rfl ?_
    exact PostP.ok HKf.out HRf.out (PathAt.mono (fun g hg _ => by omega) _ (HPf.out _ _ _ (fun g hg => by omega) hp3))
  | no er a =>
    obtain ⟨he, i3, hr3⟩ := HNO2.out er a rfl
    obtain ⟨wf, hwf, HRf, HKf, HNf, HPf, HGf, HSf⟩ := fin4 hr3 HK2.out hbl (Nat.le_refl _) HP2.out (.int .i64 k') (.string t') ((.slice A' n' c')) ((.slice B' m' d'))
    rw [← hwf]
    have z0 := blk_cell HNf.out 0
    have z1 := blk_cell HNf.out 1
    have z2 := blk_cell HNf.out 2
    have z3 := blk_cell HNf.out 3
    simp at z0 z1 z2 z3
    clear hwf
    refine bodyPost_ret (by simp [results, Tryd.results138, go_sem, z0, z1, z2, z3]; try rfl) rfl ?_
    exact PostP.no HKf.out he HRf.out
set_option maxRecDepth 100000 in
set_option maxHeartbeats 8000000 in
theorem back_deep (b : Nat) (s : ByteArray) (i d : Nat) (w0 w : World) (hR : Rq w b s i 0 0) (hs : s.size ≤ 50000) (hi : i ≤ s.size) (hT : Tabs w0) (hB : Below w0.heap.size w0 w) (hb : w0.heap.size ≤ b) (h1 : nx s i = 94) (hd : 5 ≤ d) :
    Calls Tryd.prog 138 #[.pointer (some ⟨b, 0, none⟩), .int .i64 (d : Int)] w (PostP b s w (.no 3 (skip s i))) := by
  have hbl := blk_lt hR
  have hs3 : (s.size : Int) ≤ 50000 := by omega
  obtain ⟨wa, hwa, HKa, HBa, HNa, HZa⟩ := res4 w hbl
  have HRa : Aside0 (Rq wa b s i 0 0) := ⟨hR.below HBa.out⟩
  have HHW : Aside0 (w.alloc (.cells #[.int .i64 0, .string ⟨#[]⟩, .slice none 0 0, .slice none 0 0] 25) = wa) := ⟨hwa.symm⟩
  have CN := Aside0.mk (next_ok b s i 0 wa HRa.out hs hi)
  have CF := Aside0.mk (fun W h => fails_ok b s (skip s i) 0 (skip s i) 0 3 W h)
  obtain ⟨j, hj⟩ : ∃ j, skip s i = j := ⟨_, rfl⟩
  rw [hj] at CN CF ⊢
  rw [h1] at CN
  have n4 : (5 : Int) ≤ (d : Int) := by omega
  clear hR hwa hj h1
  go_enter Tryd.func138, Tryd.ntmps138
  go_upto_region 1 with (fail)
  rw [HHW.out]
  go_wp2_with (first
    | (go_at_call 56; (with_reducible refine CN.out.mono ?_); rintro e w1 ⟨rfl, hr, hk⟩; have HR1 := Aside0.mk hr; have HK1 := Aside0.mk (HKa.out.trans hk); have HP1 := Aside0.mk (hk.blk HNa.out (by omega)); obtain ⟨c0, c1, c2, c3, f1, f2, f3⟩ := hr.cells; clear hr hk)
    | (go_at_call 57; (with_reducible refine (CF.out _ HR1.out).mono ?_); rintro e w2 ⟨rfl, hr, hk⟩; have HR2 := Aside0.mk hr; have HK2 := Aside0.mk (HK1.out.trans hk); have HP2 := Aside0.mk (hk.blk HP1.out (by omega)); have q0 := blk_cell HP2.out 0; have q1 := blk_cell HP2.out 1; have q2 := blk_cell HP2.out 2; have q3 := blk_cell HP2.out 3; simp at q0 q1 q2 q3; have k0 := blk_frozen HP2.out 0; have k1 := blk_frozen HP2.out 1; have k2 := blk_frozen HP2.out 2; have k3 := blk_frozen HP2.out 3; clear hr hk))
  obtain ⟨wf, hwf, HRf, HKf, HNf, HPf, HGf, HSf⟩ := fin4 HR2.out HK2.out hbl (Nat.le_refl _) HP2.out (.int .i64 0) (.string ⟨#[]⟩) (.slice none 0 0) (.slice none 0 0)
  rw [← hwf]
  have z0 := blk_cell HNf.out 0
  have z1 := blk_cell HNf.out 1
  have z2 := blk_cell HNf.out 2
  have z3 := blk_cell HNf.out 3
  simp at z0 z1 z2 z3
  clear hwf
  refine bodyPost_ret (by simp [results, Tryd.results138, go_sem, z0, z1, z2, z3]; try rfl) rfl ?_
  exact PostP.no HKf.out (by decide) HRf.out
set_option maxRecDepth 100000 in
set_option maxHeartbeats 8000000 in
theorem back_on (b : Nat) (s : ByteArray) (i d : Nat) (w0 w : World) (hR : Rq w b s i 0 0) (hs : s.size ≤ 50000) (hi : i ≤ s.size) (hT : Tabs w0) (hB : Below w0.heap.size w0 w) (hb : w0.heap.size ≤ b) (h1 : nx s i = 94) (hd : d < 5) (F : Nat → Res Pth) (hF : ParseC 138 b s w0 (d + 1) F) :
    Calls Tryd.prog 138 #[.pointer (some ⟨b, 0, none⟩), .int .i64 (d : Int)] w (PostP b s w (turnR (F (skip s i + 1)))) := by
  have hbl := blk_lt hR
  have hs3 : (s.size : Int) ≤ 50000 := by omega
  obtain ⟨wa, hwa, HKa, HBa, HNa, HZa⟩ := res4 w hbl
  have HRa : Aside0 (Rq wa b s i 0 0) := ⟨hR.below HBa.out⟩
  have HHW : Aside0 (w.alloc (.cells #[.int .i64 0, .string ⟨#[]⟩, .slice none 0 0, .slice none 0 0] 25) = wa) := ⟨hwa.symm⟩
  have CN := Aside0.mk (next_ok b s i 0 wa HRa.out hs hi)
  have hx := nx_in (s := s) (i := i) (by rw [h1]; decide)
  rw [h1] at CN
  have CI : Aside0 (∀ W, Rq W b s (skip s i + 1) 0 0 → Below w0.heap.size w0 W → Calls Tryd.prog 138 #[.pointer (some ⟨b, 0, none⟩), .int .i64 ((d : Int) + 1)] W (PostP b s W (F (skip s i + 1)))) := ⟨fun W hR hB => by
    have := hF (skip s i + 1) W hB hR (by omega)
    rwa [show (((d + 1 : Nat)) : Int) = (d : Int) + 1 by omega] at this⟩
  obtain ⟨j, hj⟩ : ∃ j, skip s i = j := ⟨_, rfl⟩
  rw [hj] at hx CN CI ⊢
  have g1 : (j : Int) < (s.size : Int) := by omega
  have g2 : (d : Int) < 5 := by omega
  obtain ⟨r, hr⟩ : ∃ r, F (j + 1) = r := ⟨_, rfl⟩
  rw [hr] at CI ⊢
  clear hR hwa h1 hr hj hx hF
  go_enter Tryd.func138, Tryd.ntmps138
  go_upto_region 1 with (fail)
  rw [HHW.out]
  go_upto_region 6 with (go_at_call 56; (with_reducible refine CN.out.mono ?_); rintro e w1 ⟨rfl, hr, hk⟩; have HR1 := Aside0.mk hr; have HK1 := Aside0.mk (HKa.out.trans hk); have HP1 := Aside0.mk (hk.blk HNa.out (by omega)); obtain ⟨c0, c1, c2, c3, f1, f2, f3⟩ := hr.cells; clear hr hk)
  obtain ⟨we, hwe⟩ : ∃ we, we = w1.setCell ⟨b, 1, none⟩ (.int .i64 ((j : Int) + 1)) := ⟨_, rfl⟩
  rw [← hwe]
  have HRe : Aside0 (Rq we b s (j + 1) 0 0) := ⟨by rw [hwe]; exact Rq.to HR1.out (j + 1) _ (by simp)⟩
  have HKe : Aside0 (Kb b w we) := ⟨by rw [hwe]; exact HK1.out.trans (Kb.set _ _ _)⟩
  have HPe : Aside0 (we.heap[w.heap.size]? = some (.cells #[.int .i64 0, .string ⟨#[]⟩, .slice none 0 0, .slice none 0 0] 25 (0, 0))) := ⟨by rw [hwe]; exact blk_far (p := ⟨b, 1, none⟩) HP1.out (by show w.heap.size ≠ b; omega) _⟩
  have HBe := Aside0.mk (hB.trans (HKe.out.1.mono hb))
  clear hwe c0 c1 c2 c3 f1 f2 f3
  go_wp2_with (go_at_call 138; (with_reducible refine (CI.out _ HRe.out HBe.out).mono ?_); rintro e w2 ⟨k', t', A', n', c', B', m', d', rfl, hk, hok, hno⟩; have HK2 := Aside0.mk (HKe.out.trans hk); have HOK2 := Aside0.mk hok; have HNO2 := Aside0.mk hno; have HP2 := Aside0.mk (hk.blk HPe.out (by omega)); have hlt := blk_lt HPe.out; have hlt2 := blk_lt HP2.out; have hz4 : ¬ (w.heap.size = w2.heap.size) := (by omega); have hz5 : ¬ (w2.heap.size = w.heap.size) := (by omega); have q0 := blk_cell HP2.out 0; have q1 := blk_cell HP2.out 1; have q2 := blk_cell HP2.out 2; have q3 := blk_cell HP2.out 3; simp at q0 q1 q2 q3; have k0 := blk_frozen HP2.out 0; have k1 := blk_frozen HP2.out 1; have k2 := blk_frozen HP2.out 2; have k3 := blk_frozen HP2.out 3; clear hk hok hno)
  cases r with
  | ok p j2 =>
    obtain ⟨hr3, hp3⟩ := HOK2.out p j2 rfl
    obtain ⟨wf, hwf, HRf, HKf, HNf, HPf, HGf, HSf⟩ := fin4 hr3 HK2.out hbl (Nat.le_refl _) HP2.out (.int .i64 2) (.string ⟨#[]⟩) (.slice none 0 0) (.slice (some ⟨w2.heap.size, 0, none⟩) 1 1)
    rw [← hwf]
    obtain ⟨wg, hwg, HBg⟩ : ∃ wg, wg = wf.alloc (.cells #[.int .i64 k', .string t', .slice A' n' c', .slice B' m' d'] 25) ∧ Aside0 (Below wf.heap.size wf wg) := ⟨_, rfl, ⟨below_alloc (Below.refl _ _) _⟩⟩
    rw [← hwg]
    have HQg : Aside0 (wg.heap[w2.heap.size]? = some (.cells #[.int .i64 k', .string t', .slice A' n' c', .slice B' m' d'] 25 (0, 0))) := ⟨by rw [hwg, ← HSf.out]; exact heap_alloc_new _ _⟩
    have HNg := Aside0.mk (blk_below HNf.out HBg.out)
    have z0 := blk_cell HNg.out 0
    have z1 := blk_cell HNg.out 1
    have z2 := blk_cell HNg.out 2
    have z3 := blk_cell HNg.out 3
    simp at z0 z1 z2 z3
    clear hwf hwg
    refine bodyPost_ret (by simp [results, Tryd.results138, go_sem, z0, z1, z2, z3]; try rfl) rfl ?_
    have HKg := HKf.out.trans (Kb.of HBg.out (by have := HSf.out; omega))
    have HRg := HRf.out.below HBg.out
    exact PostP.ok HKg HRg (path_one (PathAt.mono (fun g hg _ => by omega) _ ((HPf.out (fun g => we.heap.size ≤ g) _ _ (fun g hg => by omega) hp3).below HBg.out)) (by omega) HQg.out)
  | no er a =>
    obtain ⟨he, i3, hr3⟩ := HNO2.out er a rfl
    obtain ⟨wf, hwf, HRf, HKf, HNf, HPf, HGf, HSf⟩ := fin4 hr3 HK2.out hbl (Nat.le_refl _) HP2.out (.int .i64 2) (.string ⟨#[]⟩) (.slice none 0 0) (.slice (some ⟨w2.heap.size, 0, none⟩) 1 1)
    rw [← hwf]
    obtain ⟨wg, hwg, HBg⟩ : ∃ wg, wg = wf.alloc (.cells #[.int .i64 k', .string t', .slice A' n' c', .slice B' m' d'] 25) ∧ Aside0 (Below wf.heap.size wf wg) := ⟨_, rfl, ⟨below_alloc (Below.refl _ _) _⟩⟩
    rw [← hwg]
    have HQg : Aside0 (wg.heap[w2.heap.size]? = some (.cells #[.int .i64 k', .string t', .slice A' n' c', .slice B' m' d'] 25 (0, 0))) := ⟨by rw [hwg, ← HSf.out]; exact heap_alloc_new _ _⟩
    have HNg := Aside0.mk (blk_below HNf.out HBg.out)
    have z0 := blk_cell HNg.out 0
    have z1 := blk_cell HNg.out 1
    have z2 := blk_cell HNg.out 2
    have z3 := blk_cell HNg.out 3
    simp at z0 z1 z2 z3
    clear hwf hwg
    refine bodyPost_ret (by simp [results, Tryd.results138, go_sem, z0, z1, z2, z3]; try rfl) rfl ?_
    have HKg := HKf.out.trans (Kb.of HBg.out (by have := HSf.out; omega))
    have HRg := HRf.out.below HBg.out
    exact PostP.no HKg he HRg
theorem back_any (b : Nat) (s : ByteArray) (w0 : World) (hs : s.size ≤ 50000) (hT : Tabs w0) (hb : w0.heap.size ≤ b) (n : Nat) (hn : n ≤ 5) (hA : ParseC 156 b s w0 (5 - n) (atomS s n)) (hP : ∀ m, n = m + 1 → ParseC 138 b s w0 (5 - m) (backS s m)) :
    ParseC 138 b s w0 (5 - n) (backS s n) := by
  intro i w hB hR hi
  by_cases h1 : nx s i = 94
  · cases n with
    | zero =>
      rw [back_full h1]
      exact back_deep b s i 5 w0 w hR hs hi hT hB hb h1 (by decide)
    | succ m =>
      rw [back_turn h1]
      exact back_on b s i (5 - (m + 1)) w0 w hR hs hi hT hB hb h1 (by omega) (backS s m) (by
        have := hP m rfl
        rwa [show 5 - (m + 1) + 1 = 5 - m by omega])
  · rw [back_atom h1]
    exact back_not b s i _ w0 w hR hs hi hT hB hb h1 _ hA (atom_skip s n i)
end Go.Proofs.YtbaegfjoionojaaDoor.Qy
