/- The walk of known: a star. -/
import Derived.Test.YtbaegfjoionojaaDoorQaV
set_option linter.unusedSimpArgs false
set_option linter.unusedVariables false
namespace Go.Proofs.YtbaegfjoionojaaDoor.Qa
open Go Go.RowKit Go.Proofs.YtbaegfjoionojaaDoor.Qy Go.Proofs.YtbaegfjoionojaaDoor.Tm Go.Proofs.YtbaegfjoionojaaDoorW.PrintWords

theorem row_is (e : Lx) (i : Nat) (d : List Nat) (hd : d.Pairwise (· < ·)) (hm : ∀ j, j ∈ d ↔ e.go i j) : e.row i = d := by
  have h1 : ∀ l : List Nat, l.Pairwise (· < ·) → (zs l).Pairwise (· < ·) := fun l hl => by
    unfold zs
    rw [List.pairwise_map]
    exact hl.imp (fun h => by omega)
  refine zs_inj (rising_unique (h1 _ (e.row_rise i)) (h1 _ hd) (fun x => ?_))
  simp only [zs, List.mem_map]
  constructor
  · rintro ⟨n, hn, rfl⟩; exact ⟨n, (hm n).2 ((e.mem_row i n).1 hn), rfl⟩
  · rintro ⟨n, hn, rfl⟩; exact ⟨n, (e.mem_row i n).2 ((hm n).1 hn), rfl⟩
def kA : ByteArray := ⟨#[97]⟩
def kR : Rx := .star (.iri kA)
def kX : Lx := .star (.leaf ⟨[kA], false, false⟩)
theorem kR_lay : kR.lay false = kX := rfl
theorem kX_n : kX.n = 1 := rfl
theorem kX_row0 : kX.row 0 = [1] := row_is _ _ _ (by simp) (fun j => by
  unfold Lx.go; rw [if_pos rfl]; simp [kX, Lx.fi])
theorem kX_row1 : kX.row 1 = [1] := row_is _ _ _ (by simp) (fun j => by
  unfold Lx.go; rw [if_neg (by decide)]; simp [kX, Lx.fo, Lx.la, Lx.fi])
theorem kX_steps : kX.steps.length = 2 := by
  unfold Lx.steps
  rw [kX_n]
  rw [Lx.stepsTo_succ, Lx.stepsTo_succ]
  simp [Lx.stps, kX_row0, kX_row1, Lx.stepsTo]
theorem kX_la : kX.la 0 = [1] := rfl
theorem kA_iri : iriB kA = true := by kernel_rfl
theorem kR_is : isP kR.p = true := (isP_rx kR).2 ⟨kA_iri, by decide, by decide⟩
theorem kR_tame : Tame kR.p := by
  refine tame_mk.2 ⟨by decide, fun x hx => (by cases hx), fun q hq => ?_⟩
  obtain rfl := List.mem_singleton.1 hq
  exact tame_mk.2 ⟨by decide, fun x hx => (by cases hx), fun q hq => (by cases hq)⟩
theorem kR_at {w : World} {g : Nat} {ty : TypeId} (h : w.heap[g]? = some (.cells #[.int .i64 1, .string kA, .slice none 0 0, .slice none 0 0] ty (0, 0))) : PathAt w anyB kR.p [.int .i64 5, .string ⟨#[]⟩, .slice none 0 0, .slice (some ⟨g, 0, none⟩) 1 1] := by
  show PathAt w anyB (.mk 5 ⟨#[]⟩ [] [.mk 1 kA [] []]) _
  unfold PathAt
  refine ⟨none, 0, some ⟨g, 0, none⟩, 1, rfl, by simp, by simp, by simp, ⟨by simp, fun h => by simp at h⟩, ?_⟩
  unfold KidsAt
  refine ⟨⟨g, 0, [.int .i64 1, .string kA, .slice none 0 0, .slice none 0 0], rfl, trivial, fun j u hu => ?_, ?_⟩, by unfold KidsAt; trivial⟩
  · rw [show 0 + 0 * 4 + j = j by omega, blk_cell h j]
    match j, hu with
    | 0, hu => simpa using hu
    | 1, hu => simpa using hu
    | 2, hu => simpa using hu
    | 3, hu => simpa using hu
    | j + 4, hu => simp at hu
  · unfold PathAt
    exact ⟨none, 0, none, 0, rfl, by simp, by simp, by simp, ⟨by simp, fun h => by simp at h⟩, by unfold KidsAt; trivial⟩
theorem known_last {w : World} {b : Nat} (h : AutF w b kX) (x : Int) (z : Bool) (hz : ((decide (x = 0) && kX.nl) || decide (∃ n, n ∈ kX.la 0 ∧ (n : Int) = x)) = z) : Calls Tryd.prog 41 #[.pointer (some ⟨b, 0, none⟩), .int .i64 x] w fun y w' => y = .returned (.bool z) ∧ w = w' := by
  refine (last_any w b kX h x).mono ?_
  rintro y w' ⟨rfl, rfl⟩
  exact ⟨by rw [hz], rfl⟩
/-- What New answers at the star. -/
theorem known_new {w : World} {v : Value} {er : Int} (h : NewR w kR.p v er) : er = 0 ∧ ∃ b, v = .pointer (some ⟨b, 0, none⟩) ∧ AutF w b kX := by
  rcases h with ⟨h, -⟩ | ⟨r, hr, -, -, -, h⟩
  · rw [kR_is] at h; cases h
  · obtain rfl := Rx.p_inj r kR hr
    rw [kR_lay] at h
    rcases h with ⟨h, -⟩ | ⟨-, h1, b, h2, h3⟩
    · rw [kX_steps] at h; omega
    · exact ⟨h1, b, h2, h3⟩
set_option maxRecDepth 100000 in
set_option maxHeartbeats 8000000 in
theorem known_any (w : World) (hT : Tabs w) : Calls Tryd.prog 36 #[] w fun e w' => e = .returned (.bool true) ∧ Below w.heap.size w w' := by
  obtain ⟨w1, hw1, HB, HN, hs⟩ := boxA w #[.int .i64 1, .string kA, .slice none 0 0, .slice none 0 0] 25
  have CN := Aside0.mk (new_any kR.p kR_tame w1 anyB 5 ⟨#[]⟩ none 0 0 (some ⟨w.heap.size, 0, none⟩) 1 1 (kR_at HN.out) (hT.below HB.out))
  have HW : Aside0 (w.alloc (.cells #[.int .i64 1, .string kA, .slice none 0 0, .slice none 0 0] 25) = w1) := ⟨hw1.symm⟩
  rw [← HW.out] at CN
  have HK : Aside0 (kA = ⟨#[97]⟩) := ⟨rfl⟩
  rw [HK.out] at CN HW
  clear hw1 hT HN hs
  go_enter Tryd.func36, Tryd.ntmps36
  go_upto_region 2 with (go_at_call 34; (with_reducible refine CN.out.mono ?_); rw [HW.out]; rintro e w2 ⟨v, er, rfl, hn, hb⟩; obtain ⟨rfl, b, rfl, hA⟩ := known_new hn; have HA := Aside0.mk hA; have HB2 : Aside0 (Below w.heap.size w w2) := ⟨w_then' HB.out hb⟩; have CP := Aside0.mk (places_any w2 b kX hA); have CS := Aside0.mk (steps_any w2 b kX hA (fun x hx => by simp [kX, Lx.lv] at hx; subst hx; exact ⟨by simp, by simp⟩) (by rw [kX_n]; omega)); clear hn hb hA)
  rw [kX_n] at CP
  go_wp2_with (first
    | (go_at_call 37; (with_reducible refine CP.out.mono ?_); rintro e w3 ⟨rfl, rfl⟩)
    | (go_at_call 39; (with_reducible refine CS.out.mono ?_); rintro e w4 ⟨A4, c4, rfl, -, hb⟩; have HA4 := HA.out.below hb; have CL0 := Aside0.mk (known_last HA4 0 true (by rw [kX_la]; simp [kX, Lx.nl])); have CL1 := Aside0.mk (known_last HA4 1 true (by rw [kX_la]; simp)); have CL2 := Aside0.mk (known_last HA4 2 false (by rw [kX_la]; simp)); have HB4 : Aside0 (Below w.heap.size w w4) := ⟨w_then' HB2.out hb⟩; have hk2 := kX_steps; rw [hk2]; clear hb HA4 hk2)
    | (go_at_call 41; (with_reducible refine CL0.out.mono ?_); rintro e w5 ⟨rfl, rfl⟩)
    | (go_at_call 41; (with_reducible refine CL1.out.mono ?_); rintro e w6 ⟨rfl, rfl⟩)
    | (go_at_call 41; (with_reducible refine CL2.out.mono ?_); rintro e w7 ⟨rfl, rfl⟩))
  go_ret
  exact ⟨rfl, HB4.out⟩
end Go.Proofs.YtbaegfjoionojaaDoor.Qa
