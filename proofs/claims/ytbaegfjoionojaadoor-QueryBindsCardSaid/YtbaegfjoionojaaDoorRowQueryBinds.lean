/- The row of QueryBinds: for every input the law answers true, and each argument reads as it read before. No condition. -/
import Derived.Test.YtbaegfjoionojaaDoorRows
import Derived.Test.YtbaegfjoionojaaDoorHead
import Derived.Test.YtbaegfjoionojaaDoorCards
import Derived.Test.YtbaegfjoionojaaDoorTie
import Derived.Test.YtbaegfjoionojaaDoorQyRow
import Derived.Lay
import Derived.LaidOnce
import Derived.SevenTiedAt
import Derived.MakeChecks
import Derived.Test.YtbaegfjoionojaaDoorLawQueryBinds
import Derived.WalkKit
import Derived.ProofKit
import Derived.OpenShut
import Derived.ShutString
import Derived.ChangeOld
import Derived.Below
import Derived.SizedLaws
import Derived.Test.YtbaegfjoionojaaDoorWSized
namespace Go.Proofs.YtbaegfjoionojaaDoor.queryBinds
open Go.ChangeShapes Go.WideShapes Go.ChangeAt Go.RowKit
open Go.ChangeMaps (open_string shut_string)
set_option linter.unusedVariables false
set_option linter.unusedSimpArgs false
theorem own : ownKnob Tryd.prog.godebug = none := by kernel_rfl
theorem laidOut : laidOutB Tryd.prog = true := by kernel_rfl
set_option maxRecDepth 100000 in
theorem lifted (os : Os) (started : os.Started) (H : Type) (enc : TypeId × Value → H) :
    ReturnsInHanded {} Tryd.checked os 6 .any (fun w args => (Rows.queryBindsSpec.pre enc Tryd.prog Tryd.f6 [] false w args ∧ laidMetH Tryd.prog Tm.laidL w) ∧ sizedMet enc Tryd.prog Tryd.f6 (OpenSpec.ofChange Rows.queryBindsSpec) false w args) (Rows.queryBindsSpec.post enc Tryd.prog Tryd.f6 false true false false) := by
  refine Tm.handed_both (C := Tryd.checked) (X := fun w _ => laidMetH Tryd.prog Tm.laidL w) (fun _ _ _ hh h => h.of_heap hh) own started (by kernel_rfl) Tryd.func6
    (ChangeSpec.witness_shaped (enc := enc) (C := Tryd.checked) (os := os) (X := fun w _ => laidMetH Tryd.prog Tm.laidL w) false (World.laidAll Tryd.prog os Tm.laidL) #[.int .i64 0] 8 (World.laidAll_os _ _ _)
      (World.shaped_of_ZipB (by kernel_rfl) (by kernel_rfl)) (by kernel_rfl) (by kernel_rfl) (by kernel_rfl)
      (by rw [MakeChecks.laidMetH_plain _ _ _ (by kernel_rfl)]; exact laidMet_laidAll _ (by kernel_rfl) (by kernel_rfl))) ?_
  intro W base args ds gs before hval0 hW hsz0 hL hsh
  have hT := Tm.tabs_of hL hsh
  clear hL hsh
  have hsz : (DataW.weightsEach Tryd.prog (Tryd.f6.params.toList ++ Rows.queryBindsSpec.plain.varTypes Tryd.prog) (ds ++ gs)).all (· ≤ reachBytes) = true := hsz0
  have hval : ∀ (j : Nat) t v, Tryd.f6.params[j]? = some t → args[j]? = some v → Value.okWide Tryd.prog W .any base t v := hval0
  have hW' := hW
  obtain ⟨p, q, hA0, hV, rfl, hfz, hnd⟩ := hW
  have hA : DataW.TrodAll enc Tryd.prog W 0 (fun _ => true) true Tryd.f6.params.toList args.toList ds p := hA0
  rw [Tryd.params6] at hA hval hsz
  obtain ⟨v0, vs0, d0, ds0, p0, q0, hargs, rfl, rfl, h0, r0⟩ := trodAll_cons hA
  obtain ⟨rfl, rfl, rfl⟩ := trodAll_nil r0
  obtain rfl : args = #[v0] := by cases args; simp_all
  obtain ⟨rfl, rfl⟩ := trodVars_none hV
  obtain ⟨a0, rfl, rfl, rfl, w0⟩ := open_int Tryd.underlying3 (hval 0 3 v0 rfl rfl) h0
  clear hA0 hval0 hsz0 hsz
  refine (Qy.binds_law a0 W w0 hT).mono fun e W' ⟨he, bel⟩ => ?_
  subst he
  exact ⟨_, rfl, _, _, _, [], _, [], hW', trodAll_mk1 (shut_bool Tryd.underlying4 _), (trodAll_cons_mk (shut_int Tryd.underlying3 w0) trodAll_mk0), rfl, bel.frame _, fun h => by cases h⟩
set_option maxHeartbeats 1000000 in
theorem closed : joinedFacts Tryd.prog 6 Tryd.f6 Rows.queryBindsSpec Rows.queryBindsRow = true := by
  unfold joinedFacts
  rw [show Rows.queryBindsRow.make = .cut from rfl, show Rows.queryBindsRow.lifted = false from rfl]
  repeat' with_reducible refine Head.and_intro ?_ ?_
  all_goals first
    | with_reducible exact Head.mayEnter
    | with_reducible exact Head.liftsFinal
    | with_reducible exact Head.make
    | (as_aux_lemma => kernel_rfl)
theorem over : Rows.queryBindsRow.holds Tryd.pinned (OpenSpec.ofChange Rows.queryBindsSpec) :=
  OpenClaim.holds_of_wide 6 Tryd.f6 rfl rfl rfl rfl rfl rfl rfl ⟨rfl, rfl, rfl, rfl, rfl⟩ rfl rfl rfl rfl rfl (by kernel_rfl) Tryd.func6 closed
    (of_decide_eq_true (by kernel_rfl)) (by unfold Func.isWrapper; first | (rw [if_pos (by decide +kernel)]; kernel_rfl) | (rw [if_neg (by decide +kernel)]; exact ⟨rfl, rfl⟩))
    (fun os started H enc _ => lifted os started H enc)
theorem named : Tryd.prog.funcNamed "trivium/triviumlaw12.QueryBinds" = some 6 := by kernel_rfl
theorem looksNot : false = Tryd.prog.looks [] := by kernel_rfl
theorem goesNot : false = Rows.queryBindsRow.goesBy Tryd.prog := by kernel_rfl
theorem byText : OpenClaim.wfByText (OpenSpec.ofChange Rows.queryBindsSpec) Rows.queryBindsRow = true := by kernel_rfl
theorem wants : (Tryd.f6.params.toList.all fun u => !Tryd.prog.wantsStandIn u) = true := by kernel_rfl
end Go.Proofs.YtbaegfjoionojaaDoor.queryBinds
namespace Go.Proofs.YtbaegfjoionojaaDoor
theorem queryBinds_card : Rows.QueryBindsCardSaid :=
  Claim7.holds_tied_plain_at .later [] [.data, .pinned] true (true, "1d80d748d7c40e0f2b73122b9faad42e26304f1aac90bb73a2cb775e587676ce") false queryBinds.over (fun _ h => by cases h) queryBinds.byText (fun _ h => by cases h) queryBinds_row_tie rfl ⟨rfl, rfl⟩ Head.mainIs rfl
    (fun f fn hf hfn => by
      obtain rfl : f = 6 := Option.some.inj (queryBinds.named.symm.trans hf) |>.symm
      obtain rfl : fn = Tryd.f6 := (Option.some.inj (Tryd.func6.symm.trans hfn)).symm
      exact ⟨queryBinds.looksNot, fun j t ht => by
        have hm : t ∈ Tryd.f6.params.toList := by
          rw [← Array.getElem?_toList] at ht
          exact List.mem_of_getElem? ht
        exact (show Tryd.prog.wantsStandIn t = false by simpa using List.all_eq_true.1 queryBinds.wants t hm)⟩)
    queryBinds.goesNot
#print axioms queryBinds_card
end Go.Proofs.YtbaegfjoionojaaDoor
