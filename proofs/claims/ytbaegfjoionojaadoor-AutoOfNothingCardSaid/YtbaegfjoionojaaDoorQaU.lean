/- The walk of auto.New. -/
import Derived.Test.YtbaegfjoionojaaDoorQaT
set_option linter.unusedSimpArgs false
set_option linter.unusedVariables false
namespace Go.Proofs.YtbaegfjoionojaaDoor.Qa
open Go Go.RowKit Go.Proofs.YtbaegfjoionojaaDoor.Qy Go.Proofs.YtbaegfjoionojaaDoor.Tm Go.Proofs.YtbaegfjoionojaaDoorW.PrintWords

def NewP (w : World) (p : Pth) (e : Ending) (w' : World) : Prop := ∃ v er, e = .returned (.tuple #[v, .int .i64 er]) ∧ NewR w' p v er ∧ Below w.heap.size w w'
/-- The automaton at its beginning: no place, one empty row. -/
theorem aut_empty {w : World} {N gB b : Nat} (hN : N ≤ gB) (hNb : N ≤ b) (hg : w.heap[gB]? = some (.cells #[.slice none 0 0] 71 (0, 0)))
    (hb : w.heap[b]? = some (.cells #[.slice none 0 0, .slice (some ⟨gB, 0, none⟩) 1 1, .slice none 0 0, .slice none 0 0, .bool false] 100 (0, 0))) : ∃ S : Nat → Prop, Aut w N b [] [[]] S ∧ ∀ g, S g → N ≤ g := by
  have hV : AutV w N b (.slice none 0 0) (.slice (some ⟨gB, 0, none⟩) 1 1) [] [.slice none 0 0] [] [[]] (.slice none 0 0) (.slice none 0 0) (.bool false) := by
    refine ⟨hNb, hb, own_nil _ _ _ _, Reps.none _ _, ⟨rfl, .inr ⟨gB, 1, _, rfl, hN, hg, Nat.le_refl _, by decide, rfl, rfl⟩⟩, fun i v hv => ?_, fun i j v v' g hv hv' hg hg' => ?_⟩
    · cases i with
      | zero => simp at hv; subst hv; exact (own_nil _ _ _ _ : World.ownsRow _ _ 3 1 (.slice none 0 0) 0 [])
      | succ k => simp at hv
    · cases i with
      | zero => simp at hv; subst hv; simp [Value.ownBlock] at hg
      | succ k => simp at hv
  exact ⟨_, ⟨_, _, _, _, _, _, _, hV, rfl⟩, fun g hg => (hV.S_lt hg).1⟩
theorem ret2 {v : Value} {n : Int} {e : Ending} (h : e = .returned (.tuple #[v, .int .i64 n])) : e = .returned (.tuple #[v, .int .i64 n]) := h
set_option maxRecDepth 100000 in
set_option maxHeartbeats 16000000 in
theorem new_any (p : Pth) (ht : Tame p) (w : World) (ok : Nat → Prop) (k : Int) (t : ByteArray) (A : Option Addr) (n c : Nat) (B : Option Addr) (m d : Nat) (hp : PathAt w ok p [.int .i64 k, .string t, .slice A n c, .slice B m d]) (hT : Tabs w) :
    Calls Tryd.prog 34 #[.agg #[.int .i64 k, .string t, .slice A n c, .slice B m d]] w (NewP w p) := by
  obtain ⟨wb, hwb, HB, HN, hsb⟩ := boxA w #[.int .i64 k, .string t, .slice A n c, .slice B m d] 25
  have HW := Aside0.mk hwb.symm
  have CI := Aside0.mk (is_path_tame p ht wb ok k t A n c B m d (hp.below HB.out) (hT.below HB.out))
  obtain ⟨sz, hsz⟩ : ∃ n, w.heap.size = n := ⟨_, rfl⟩
  rw [hsz] at HN hsb
  have HP := Aside0.mk hp
  clear hwb hT hp
  cases hI : isP p with
  | false =>
    rw [hI] at CI
    have HI := Aside0.mk hI
    clear hI ht
    go_enter Tryd.func34, Tryd.ntmps34
    go_upto_region 1 with (fail)
    rw [HW.out]
    have q0 := (blk_cell HN.out 0).trans rfl
    have q1 := (blk_cell HN.out 1).trans rfl
    have q2 := (blk_cell HN.out 2).trans rfl
    have q3 := (blk_cell HN.out 3).trans rfl
    go_wp2_with (go_at_call 32; (with_reducible refine CI.out.mono ?_); rintro e w1 ⟨rfl, hb⟩; have HB1 := Aside0.mk hb; clear hb q0 q1 q2 q3)
    go_ret2
    exact ⟨_, 1, rfl, Or.inl ⟨HI.out, rfl, rfl⟩, HB.out.trans (HB1.out.mono HB.out.size)⟩
  | true =>
    obtain ⟨r, rfl, hfine, hdp, hrz⟩ := rx_isP hI
    rw [hI] at CI
    have HR := Aside0.mk (And.intro hfine (And.intro hdp hrz))
    have CBB := Aside0.mk (build_any r hfine)
    obtain ⟨X, hX⟩ : ∃ e, r.lay false = e := ⟨_, rfl⟩
    have HX := Aside0.mk hX
    have HXZ : Aside0 (X.sz ≤ 30) := ⟨by have := r.lay_sz false; rw [hX] at this; omega⟩
    have HBD : Aside0 (Bd r [] [[]]) := ⟨⟨hrz, by simp; omega, rfl, fun i => by
      have : (([[]] : List (List Nat)).getD i []).length = 0 := by
        cases i with
        | zero => rfl
        | succ k => simp
      omega⟩⟩
    have hXn : X.n ≤ 30 := by have := X.n_sz; have := HXZ.out; omega
    clear hI ht hfine hdp hrz hX
    go_enter Tryd.func34, Tryd.ntmps34
    go_upto_region 1 with (fail)
    rw [HW.out]
    have q0 := (blk_cell HN.out 0).trans rfl
    have q1 := (blk_cell HN.out 1).trans rfl
    have q2 := (blk_cell HN.out 2).trans rfl
    have q3 := (blk_cell HN.out 3).trans rfl
    go_upto_region 3 with (go_at_call 32; (with_reducible refine CI.out.mono ?_); rintro e w1 ⟨rfl, hb⟩; have HB1 := Aside0.mk hb; clear hb q0 q1 q2 q3)
    clear HW CI
    have HN1 := Aside0.mk (blk_below HN.out HB1.out)
    have HBw1 : Aside0 (Below w.heap.size w w1) := ⟨HB.out.trans (HB1.out.mono HB.out.size)⟩
    have hw1 : sz + 1 ≤ w1.heap.size := by have := HB1.out.size; omega
    obtain ⟨w2, hw2, HB2, HG2, hs2⟩ := boxA w1 #[.slice none 0 0] 71
    obtain ⟨w3, hw3, HB3, HA3, hs3⟩ := boxA w2 #[.slice none 0 0, .slice (some ⟨w1.heap.size, 0, none⟩) 1 1, .slice none 0 0, .slice none 0 0, .bool false] 100
    have HW2 := Aside0.mk hw2.symm
    have HW3 := Aside0.mk hw3.symm
    go_upto_region 4 with (fail)
    rw [HW2.out, HW3.out]
    obtain ⟨b, hb⟩ : ∃ b, w2.heap.size = b := ⟨_, rfl⟩
    have hw2s := HB2.out.size
    rw [hb] at HA3
    try rw [hb]
    try rw [show w1.heap.size + 1 = b by omega]
    have HB3w : Aside0 (Below w.heap.size w w3) := ⟨w_then' (w_then' HBw1.out HB2.out) HB3.out⟩
    have HN3 := Aside0.mk (blk_below (blk_below HN1.out HB2.out) HB3.out)
    obtain ⟨S, hAut, hSN⟩ := aut_empty (N := w.heap.size) (by omega) (by omega) (blk_below HG2.out HB3.out) HA3.out
    have HP3 : PathAt w3 (fun g => ¬ S g) r.p [.int .i64 k, .string t, .slice A n c, .slice B m d] := (PathAt.mono (ok' := fun g => ¬ S g) (fun k _ hl hs => by have := hSN k hs; omega) r.p HP.out).below HB3w.out
    have CB := Aside0.mk (CBB.out false w3 w.heap.size b [] [[]] S hAut HB3w.out.size k t A n c B m d HP3 HBD.out)
    rw [HX.out, List.nil_append, List.length_nil] at CB
    have HSN := Aside0.mk hSN
    clear hAut hSN HP3 HP HBD CBB HB1 HN1 HB2 HB3 HG2 HA3 HW2 HW3 hw2 hw3 HBw1
    have q0 := (blk_cell HN3.out 0).trans rfl
    have q1 := (blk_cell HN3.out 1).trans rfl
    have q2 := (blk_cell HN3.out 2).trans rfl
    have q3 := (blk_cell HN3.out 3).trans rfl
    go_upto_region 5 with (go_at_call 66; (with_reducible refine CB.out.mono ?_); rintro e w4 ⟨S1, ⟨vA, vB, inA, bs, c2, c3, c4, hV4, rfl⟩, hF, F1, cF1, L1, cL1, rfl, hf, hl⟩; have HV4 := Aside0.mk hV4; have HF4 := Aside0.mk hF; have HIf := Aside0.mk hf; have HIl := Aside0.mk hl; have y2 := (blk_cell hV4.blk 2).trans rfl; have y3 := (blk_cell hV4.blk 3).trans rfl; have y4 := (blk_cell hV4.blk 4).trans rfl; have u2 := blk_frozen hV4.blk 2; have u3 := blk_frozen hV4.blk 3; have u4 := blk_frozen hV4.blk 4; clear hV4 hF hf hl q0 q1 q2 q3)
    clear y2 y3 y4 u2 u3 u4 CB
    have HB4 : Aside0 (Below w.heap.size w w4) := ⟨HB3w.out.trans ⟨HF4.out.os, HF4.out.tape, HF4.out.output, HF4.out.size, fun g hg => HF4.out.keep g (by have := HB3w.out.size; omega) (fun hs => by have := HSN.out g hs; omega)⟩⟩
    obtain ⟨ab, cA, gB, cB, hvA, hvB, hbg, hNI⟩ := NInv.start HV4.out HB4.out HIf.out HIl.out (cF := cF1) (cL := cL1)
    subst hvA hvB
    obtain ⟨w5, hw5⟩ : ∃ x, x = ((w4.setCell ⟨b, 2, none⟩ (.slice F1 (X.fi 0).length cF1)).setCell ⟨b, 3, none⟩ (.slice L1 (X.la 0).length cL1)).setCell ⟨b, 4, none⟩ (.bool X.nl) := ⟨_, rfl⟩
    rw [← hw5] at hNI ⊢
    have hblk5 : w5.heap[b]? = some (.cells #[.slice (some ⟨ab, 0, none⟩) X.n cA, .slice (some ⟨gB, 0, none⟩) (X.n + 1) cB, .slice F1 (X.fi 0).length cF1, .slice L1 (X.la 0).length cL1, .bool X.nl] 100 (0, 0)) := by
      rw [hw5]; exact blk_set (blk_set (blk_set HV4.out.blk 2 _) 3 _) 4 _
    have hgrow : ∃ cur : Array Value, w5.heap[gB]? = some (.cells cur 71 (0, 0)) ∧ 0 < cur.size := by
      obtain ⟨cur, h1, h2⟩ := hNI.row
      have h3 : w4.heap[gB]? = w5.heap[gB]? := by
        rw [hw5]
        exact (((Below.heap_setCell _ ⟨b, 4, none⟩ _ gB (fun e => hbg e.symm)).trans (Below.heap_setCell _ ⟨b, 3, none⟩ _ gB (fun e => hbg e.symm))).trans (Below.heap_setCell _ ⟨b, 2, none⟩ _ gB (fun e => hbg e.symm))).symm
      rcases HV4.out.oB.2 with ⟨h', _⟩ | ⟨g', cap', cur', h', _, hh, k1, _, k3, k4⟩
      · cases h'
      · have e1 : gB = g' := by injection h' with h'; injection h' with h'; injection h' with h'
        subst e1
        refine ⟨cur', h3 ▸ hh, ?_⟩
        have : (X.bf 0 [[]]).length = X.n + 1 := by rw [Lx.bf_length]; simp; omega
        omega
    obtain ⟨cur5, hcur5, hcs5⟩ := hgrow
    have HNI := Aside0.mk hNI
    have HBK5 := Aside0.mk hblk5
    have HCU5 := Aside0.mk hcur5
    clear hNI hblk5 hcur5 hw5 HV4 HIf HIl HF4 HB4 HN3 HB3w HSN
    obtain ⟨nf, hnf⟩ : ∃ n, (X.fi 0).length = n := ⟨_, rfl⟩
    obtain ⟨nl, hnl⟩ : ∃ n, (X.la 0).length = n := ⟨_, rfl⟩
    obtain ⟨xe, hxe⟩ : ∃ n, X.nl = n := ⟨_, rfl⟩
    have HNF := Aside0.mk hnf
    have HNL := Aside0.mk hnl
    have HXE := Aside0.mk hxe
    rw [hnf] at HNI
    rw [hnf, hnl, hxe] at HBK5
    try rw [hnf]
    try rw [hnl]
    try rw [hxe]
    clear hnf hnl hxe
    have hS : (fun W : World => W.cell? ⟨b, 1, none⟩ = some (.slice (some ⟨gB, 0, none⟩) (X.n + 1) cB) ∧ W.cell? ⟨b, 2, none⟩ = some (.slice F1 nf cF1)) w5.drew := ⟨(blk_cell HBK5.out 1).trans rfl, (blk_cell HBK5.out 2).trans rfl⟩
    have h6 : (w5.drew).cell? ⟨gB, 0, none⟩ = cur5[0]? := blk_cell HCU5.out 0
    obtain ⟨o6, ho6⟩ : ∃ o, cur5[0]? = some o := ⟨_, Array.getElem?_eq_getElem hcs5⟩
    rw [ho6] at h6
    have h7 : (w5.drew).frozen? ⟨gB, 0, none⟩ = false := blk_frozen HCU5.out 0
    have hS6 : (fun W : World => W.cell? ⟨b, 1, none⟩ = some (.slice (some ⟨gB, 0, none⟩) (X.n + 1) cB) ∧ W.cell? ⟨b, 2, none⟩ = some (.slice F1 nf cF1)) (w5.drew.setCell ⟨gB, 0, none⟩ (.slice F1 nf cF1)) := ⟨(blk_cell (blk_far (p := ⟨gB, 0, none⟩) (show w5.drew.heap[b]? = _ from HBK5.out) hbg _) 1).trans rfl, (blk_cell (blk_far (p := ⟨gB, 0, none⟩) (show w5.drew.heap[b]? = _ from HBK5.out) hbg _) 2).trans rfl⟩
    refine wp_region_held (S := (fun W : World => W.cell? ⟨b, 1, none⟩ = some (.slice (some ⟨gB, 0, none⟩) (X.n + 1) cB) ∧ W.cell? ⟨b, 2, none⟩ = some (.slice F1 nf cF1))) (by kernel_rfl) ?_
    change wpAnyH _ _ _ _ _ _ _ _ w5.drew
    have HNd : Aside0 (NInv w X b gB ab cA cB F1 cF1 L1 cL1 0 (w5.drew.setCell ⟨gB, 0, none⟩ (.slice F1 nf cF1))) := ⟨(HNI.out.moved (fun g => rfl) (below_drew HNI.out.bel))⟩
    generalize w5.drew = wd at hS hS6 h6 h7 HNd ⊢
    clear HNI HBK5 HCU5 ho6 hcs5
    first | refine tkU 0 hS ?_ | (refine tkV 0 (v := ?_) hS ?_ ?_; rotate_left 1; · (intro w0 hSw; (try dsimp only at hSw); go_split_ands; go_simp; try with_reducible rfl)) | fail
    try simp only [Act.put, pL]
    first | refine tkU 1 hS ?_ | (refine tkV 1 (v := ?_) hS ?_ ?_; rotate_left 1; · (intro w0 hSw; (try dsimp only at hSw); go_split_ands; go_simp; try with_reducible rfl)) | fail
    try simp only [Act.put, pL]
    first | refine tkU 2 hS ?_ | (refine tkV 2 (v := ?_) hS ?_ ?_; rotate_left 1; · (intro w0 hSw; (try dsimp only at hSw); go_split_ands; go_simp; try with_reducible rfl)) | fail
    try simp only [Act.put, pL]
    first | refine tkU 3 hS ?_ | (refine tkV 3 (v := ?_) hS ?_ ?_; rotate_left 1; · (intro w0 hSw; (try dsimp only at hSw); go_split_ands; go_simp; try with_reducible rfl)) | fail
    try simp only [Act.put, pL]
    first | refine tkU 4 hS ?_ | (refine tkV 4 (v := ?_) hS ?_ ?_; rotate_left 1; · (intro w0 hSw; (try dsimp only at hSw); go_split_ands; go_simp; try with_reducible rfl)) | fail
    try simp only [Act.put, pL]
    first | refine tkU 5 hS ?_ | (refine tkV 5 (v := ?_) hS ?_ ?_; rotate_left 1; · (intro w0 hSw; (try dsimp only at hSw); go_split_ands; go_simp; try with_reducible rfl)) | fail
    try simp only [Act.put, pL]
    first | refine tkU 6 hS ?_ | (refine tkV 6 (v := ?_) hS ?_ ?_; rotate_left 1; · (intro w0 hSw; (try dsimp only at hSw); go_split_ands; go_simp; try with_reducible rfl)) | fail
    try simp only [Act.put, pL]
    first | refine tkU 7 hS ?_ | (refine tkV 7 (v := ?_) hS ?_ ?_; rotate_left 1; · (intro w0 hSw; (try dsimp only at hSw); go_split_ands; go_simp; try with_reducible rfl)) | fail
    try simp only [Act.put, pL]
    first | refine tkU 8 hS ?_ | (refine tkV 8 (v := ?_) hS ?_ ?_; rotate_left 1; · (intro w0 hSw; (try dsimp only at hSw); go_split_ands; go_simp; try with_reducible rfl)) | fail
    try simp only [Act.put, pL]
    first | refine tkU 9 hS ?_ | (refine tkV 9 (v := ?_) hS ?_ ?_; rotate_left 1; · (intro w0 hSw; (try dsimp only at hSw); go_split_ands; go_simp; try with_reducible rfl)) | fail
    try simp only [Act.put, pL]
    refine wpAnyH_ready (rs := [10]) (by kernel_rfl) (by simp) ?_
    refine AllReadyH.cons rfl (fun K hK => ?_) AllReadyH.nil
    go_simp
    refine hK.out _ _ hS6 (fun _ => ?_)
    clear hK K hS hS6 h6 h7
    try simp only [Act.put, pL]
    refine wpAnyH_done (by kernel_rfl) ?_ _
    generalize wd.setCell ⟨gB, 0, none⟩ (.slice F1 nf cF1) = w6 at HNd ⊢
    have z1 : w6.cell? ⟨b, 1, none⟩ = some (.slice (some ⟨gB, 0, none⟩) (X.n + 1) cB) := (blk_cell HNd.out.blk 1).trans rfl
    have HRL : Aside0 (∀ i, (Rws X i i).length ≤ 50000) := ⟨fun i => Rws_len X HXZ.out i i⟩
    obtain ⟨M, hM⟩ : ∃ M, X.n + 1 = M := ⟨_, rfl⟩
    rw [hM] at z1 ⊢
    have HM := Aside0.mk hM
    have hM31 : M ≤ 31 := by omega
    have HCN : Aside0 (∀ i, i ≤ M → X.cnt i ≤ 2000) := ⟨fun i hi => by
      have h1 := X.steps_len i
      rw [steps_cnt] at h1
      have h2 : i * (X.n + 1) ≤ 31 * 31 := Nat.mul_le_mul (by omega) (by omega)
      omega⟩
    clear hM hXn
    go_wp2_with fail
    clear z1
    go_loopw [5, 35] (fun x y wr => ∃ i : Nat, i ≤ M ∧ y = .int .i64 i ∧ x = .int .i64 ((X.cnt i : Nat) : Int) ∧ Aside0 (NInv w X b gB ab cA cB F1 cF1 L1 cL1 i wr)) (fun _ y _ => M - (intOf y).toNat)
    case atStart => exact ⟨0, by omega, rfl, rfl, HNd⟩
    case round =>
      clear HNd
      obtain ⟨wa, rfl⟩ : ∃ x, x = wr := ⟨wr, rfl⟩
      obtain ⟨i, hi, rfl, rfl, HI⟩ := hrel
      have hcn := HCN.out i hi
      by_cases hin : i < M
      · obtain ⟨R, cR, hcell, hri⟩ := HI.out.at_ i (by have := HM.out; omega)
        have CC := Aside0.mk (clone_ints (c := cR) hri (by have := HRL.out i; omega))
        have HDR := Aside0.mk (distinct_row (X.row_rise i) (Rws_mem X i))
        have hrl := HRL.out i
        obtain ⟨rr, hrr⟩ : ∃ l, Rws X i i = l := ⟨_, rfl⟩
        rw [hrr] at CC HDR hcell hrl
        have z1 : wa.cell? ⟨b, 1, none⟩ = some (.slice (some ⟨gB, 0, none⟩) M cB) := by rw [← HM.out]; exact (blk_cell HI.out.blk 1).trans rfl
        have HCS : Aside0 (X.cnt (i + 1) = X.cnt i + (X.row i).length) := ⟨cnt_succ X i⟩
        have hcn2 := HCN.out (i + 1) (by omega)
        obtain ⟨ci, hci⟩ : ∃ n, X.cnt i = n := ⟨_, rfl⟩
        obtain ⟨cs, hcs⟩ : ∃ n, X.cnt (i + 1) = n := ⟨_, rfl⟩
        obtain ⟨rn, hrn⟩ : ∃ n, (X.row i).length = n := ⟨_, rfl⟩
        rw [hci] at HCS hcn ⊢
        rw [hcs] at HCS hcn2
        rw [hrn] at HCS
        have hcsum : cs = ci + rn := HCS.out
        have HCI := Aside0.mk hcs
        have HRN := Aside0.mk hrn
        have g0 : (0 : Int) ≤ (i : Int) := by omega
        have g1 : (i : Int) < (M : Int) := by omega
        clear hri hrr hci hcs hrn HCS
        go_upto_region 12 with (first
          | (go_at_call 67; (with_reducible refine CC.out.mono ?_); rintro e w1 ⟨v1, rfl, hv, hb⟩; have HB1 := Aside0.mk hb; have CS := Aside0.mk (sort_ints (RowZ.of hv) (by rw [zs_length]; omega)); have HV1 := Aside0.mk hv; clear hv hb hcell)
          | (go_at_call 68; (with_reducible refine CS.out.mono ?_); rintro e w2 ⟨rfl, hv, hg⟩; have HV2 := Aside0.mk hv; have HB2 : Aside0 (Below wa.heap.size wa w2) := ⟨HB1.out.grown hg HB1.out.size (fun j hj => own_base HV1.out j hj)⟩; clear hv hg))
        have hS : (fun W : World => W.cell? ⟨b, 1, none⟩ = some (.slice (some ⟨gB, 0, none⟩) M cB)) w2.drew := (World.cell?_of_block (HB2.out.block b (blk_lt HI.out.blk))).trans z1
        refine wp_region_held (S := (fun W : World => W.cell? ⟨b, 1, none⟩ = some (.slice (some ⟨gB, 0, none⟩) M cB))) (by kernel_rfl) ?_
        change wpAnyH _ _ _ _ _ _ _ _ w2.drew
        have HBd : Aside0 (Below wa.heap.size wa w2.drew) := ⟨below_drew HB2.out⟩
        have CM : Aside0 (Calls Tryd.prog 69 #[v1] w2.drew fun e w' => ∃ u, e = .returned u ∧ RowZ w' wa.heap.size u (Lib.compact ((zs rr).mergeSort fun x y => decide (x ≤ y))) ∧ w2.drew.grownBy w' v1.ownBlock) := ⟨compact_ints (show RowZ w2.drew wa.heap.size v1 _ from HV2.out) (by rw [List.length_mergeSort, zs_length]; omega)⟩
        rw [HDR.out] at CM
        have HVo : Aside0 (∀ j, v1.ownBlock = some j → wa.heap.size ≤ j) := ⟨fun j hj => own_base HV2.out j hj⟩
        generalize w2.drew = wd at hS HBd CM ⊢
        clear CC CS HV1 HV2 HB1 HB2 z1 HDR
        first | refine tkU 0 hS ?_ | (refine tkV 0 (v := ?_) hS ?_ ?_; rotate_left 1; · (intro w0 hSw; (try dsimp only at hSw); go_split_ands; go_simp; try with_reducible rfl)) | fail
        try simp only [Act.put, pL]
        first | refine tkU 1 hS ?_ | (refine tkV 1 (v := ?_) hS ?_ ?_; rotate_left 1; · (intro w0 hSw; (try dsimp only at hSw); go_split_ands; go_simp; try with_reducible rfl)) | fail
        try simp only [Act.put, pL]
        first | refine tkU 2 hS ?_ | (refine tkV 2 (v := ?_) hS ?_ ?_; rotate_left 1; · (intro w0 hSw; (try dsimp only at hSw); go_split_ands; go_simp; try with_reducible rfl)) | fail
        try simp only [Act.put, pL]
        first | refine tkU 3 hS ?_ | (refine tkV 3 (v := ?_) hS ?_ ?_; rotate_left 1; · (intro w0 hSw; (try dsimp only at hSw); go_split_ands; go_simp; try with_reducible rfl)) | fail
        try simp only [Act.put, pL]
        first | refine tkU 4 hS ?_ | (refine tkV 4 (v := ?_) hS ?_ ?_; rotate_left 1; · (intro w0 hSw; (try dsimp only at hSw); go_split_ands; go_simp; try with_reducible rfl)) | fail
        try simp only [Act.put, pL]
        first | refine tkU 5 hS ?_ | (refine tkV 5 (v := ?_) hS ?_ ?_; rotate_left 1; · (intro w0 hSw; (try dsimp only at hSw); go_split_ands; go_simp; try with_reducible rfl)) | fail
        try simp only [Act.put, pL]
        refine wpAnyH_ready (rs := [6]) (by kernel_rfl) (by simp) ?_
        refine AllReadyH.cons rfl (fun K hK => ?_) AllReadyH.nil
        go_simp
        refine CM.out.mono ?_
        rintro e w3 ⟨u, rfl, hv, hg⟩
        have hv := RowZ.to hv
        have hB3 : Below wa.heap.size wa w3 := HBd.out.grown hg HBd.out.size HVo.out
        obtain ⟨Au, cu, rfl, -, -⟩ := hv.reads
        have HST := Aside0.mk (HI.out.step (by have := HM.out; omega) hB3 hv)
        have hS3 : (fun W : World => W.cell? ⟨b, 1, none⟩ = some (.slice (some ⟨gB, 0, none⟩) M cB)) w3 := by rw [← HM.out]; exact (World.cell?_of_block (hB3.block b (blk_lt HI.out.blk))).trans ((blk_cell HI.out.blk 1).trans rfl)
        have hc3 : ∃ o, w3.cell? ⟨gB, i, none⟩ = some o := by
          obtain ⟨cur, h1, h2⟩ := HI.out.row
          exact ⟨cur[i]'(by have := HM.out; omega), (blk_cell (blk_below h1 hB3) i).trans (Array.getElem?_eq_getElem _)⟩
        obtain ⟨o3, ho3⟩ := hc3
        have hf3 : w3.frozen? ⟨gB, i, none⟩ = false := by
          obtain ⟨cur, h1, h2⟩ := HI.out.row
          exact blk_frozen (blk_below h1 hB3) i
        rw [HRN.out] at HST ⊢
        have hS4 : (fun W : World => W.cell? ⟨b, 1, none⟩ = some (.slice (some ⟨gB, 0, none⟩) M cB)) (w3.setCell ⟨gB, i, none⟩ (.slice Au rn cu)) := by rw [← HM.out]; exact (blk_cell HST.out.blk 1).trans rfl
        have hc4 : (w3.setCell ⟨gB, i, none⟩ (.slice Au rn cu)).cell? ⟨gB, i, none⟩ = some (.slice Au rn cu) := by
          obtain ⟨cur, h1, h2⟩ := HI.out.row
          rw [blk_cell (blk_set (blk_below h1 hB3) i _) i]
          simp [show i < cur.size by have := HM.out; omega]
        refine hK.out _ _ hS3 (fun _ => ?_)
        clear hK K hS hv hg hB3 CM HVo HBd HI
        try simp only [Act.put, pL]
        first | refine tkU 7 hS3 ?_ | (refine tkV 7 (v := ?_) hS3 ?_ ?_; rotate_left 1; · (intro w0 hSw; (try dsimp only at hSw); go_split_ands; go_simp; try with_reducible rfl)) | fail
        try simp only [Act.put, pL]
        refine wpAnyH_ready (rs := [8]) (by kernel_rfl) (by simp) ?_
        refine AllReadyH.cons rfl (fun K hK => ?_) AllReadyH.nil
        go_simp
        refine hK.out _ _ hS4 (fun _ => ?_)
        clear hK K hS3 ho3 hf3
        try simp only [Act.put, pL]
        refine wpAnyH_done (by kernel_rfl) ?_ _
        generalize w3.setCell ⟨gB, i, none⟩ (.slice Au rn cu) = w8 at HST hS4 hc4 ⊢
        go_wp2_with fail
        go_roundw
        case rel => exact ⟨i + 1, by omega, by go_num, by rw [HCI.out, hcsum]; go_num, HST⟩
        case measure => simp [intOf]; omega
      · obtain rfl : i = M := by omega
        have HF := HI
        have HCE : Aside0 (X.cnt (X.n + 1) = X.cnt i) := ⟨by rw [HM.out]⟩
        have HCT : Aside0 ((r.lay false).steps.length = X.cnt i) := ⟨by rw [HX.out]; unfold Lx.steps; rw [steps_cnt, HM.out]⟩
        obtain ⟨ct, hct⟩ : ∃ n, X.cnt i = n := ⟨_, rfl⟩
        rw [hct] at HCT hcn ⊢
        clear hct HCE
        by_cases h200 : 200 < ct
        · have n2 : decide ((200 : Int) < (ct : Int)) = true := decide_eq_true (by omega)
          have HT : Aside0 (200 < (r.lay false).steps.length) := ⟨by rw [HCT.out]; exact h200⟩
          clear h200
          go_wp2_with fail
          go_ret2
          exact ⟨_, 3, rfl, Or.inr ⟨r, rfl, HR.out.1, HR.out.2.1, HR.out.2.2, Or.inl ⟨HT.out, rfl, rfl⟩⟩, HF.out.bel⟩
        · have n2 : decide ((200 : Int) < (ct : Int)) = false := decide_eq_false (by omega)
          have HT : Aside0 ((r.lay false).steps.length ≤ 200) := ⟨by rw [HCT.out]; omega⟩
          have HA : Aside0 (AutF wa b (r.lay false)) := ⟨by rw [HX.out]; have := HF.out; rw [← HM.out] at this; exact this.done⟩
          clear h200
          go_wp2_with fail
          go_ret2
          exact ⟨_, 0, rfl, Or.inr ⟨r, rfl, HR.out.1, HR.out.2.1, HR.out.2.2, Or.inr ⟨HT.out, rfl, b, rfl, HA.out⟩⟩, HF.out.bel⟩
end Go.Proofs.YtbaegfjoionojaaDoor.Qa
