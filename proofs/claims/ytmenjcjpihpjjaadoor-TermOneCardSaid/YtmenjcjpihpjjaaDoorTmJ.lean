/- The walks of a Builder's writes (the shelf's contracts do not fit this dump's shape: a branch of copyCheck is refused by the loader). -/
import Derived.Test.YtmenjcjpihpjjaaDoorTmI
import Derived.Laws.AppendOwn
import Derived.Below
set_option linter.unusedSimpArgs false
set_option linter.unusedVariables false
namespace Go.Proofs.YtmenjcjpihpjjaaDoor.Tm
open Go Go.RowKit Go.Shelf Go.Proofs.YtmenjcjpihpjjaaDoorW.PrintWords

theorem info_bld : (Tryd.prog.info? 71).map (·.size) = some 2 := by kernel_rfl
theorem lies_bld : liesAt Tryd.prog Tryd.prog.depth 71 (2 / Tryd.prog.cellsOf 71) 0 71 1 = true := by kernel_rfl
theorem info_u8 : (Tryd.prog.info? 5).map (fun i => (i.zero, i.size, i.bytes)) = some (some (.int .u8 0), 1, 1) := by kernel_rfl
set_option maxHeartbeats 1000000 in
set_option maxRecDepth 100000 in
theorem check_used (b : Nat) (w : World) (h0 : w.cell? ⟨b, 0, none⟩ = some (.pointer (some ⟨b, 0, none⟩))) :
    Calls Tryd.prog 73 #[.pointer (some ⟨b, 0, none⟩)] w fun e w' => e = .returned (.tuple #[]) ∧ w' = w := by
  obtain ⟨j, hj, _⟩ := Option.map_eq_some_iff.1 info_bld
  have hne := Lib.run_neq_ptr_same (P := Tryd.prog) w ⟨b, 0, none⟩ Tryd.underlying69 hj
  go_enter Tryd.func73, Tryd.ntmps73
  go_wp2_with fail
  go_end0
  exact ⟨rfl, rfl⟩
set_option maxHeartbeats 1000000 in
set_option maxRecDepth 100000 in
theorem check_fresh (b : Nat) (w : World) (h0 : w.cell? ⟨b, 0, none⟩ = some (.pointer none)) (hsh : w.shape? b = some (71, 2)) (hfz : w.frozen? ⟨b, 0, none⟩ = false) :
    Calls Tryd.prog 73 #[.pointer (some ⟨b, 0, none⟩)] w fun e w' => e = .returned (.tuple #[]) ∧ w' = w.setCell ⟨b, 0, none⟩ (.pointer (some ⟨b, 0, none⟩)) := by
  obtain ⟨j, hj, hjs⟩ := Option.map_eq_some_iff.1 info_bld
  have c1 := Lib.run_to_unsafe (P := Tryd.prog) w ⟨b, 0, none⟩ Tryd.underlying69 Tryd.underlying100 hj (by rw [hjs]; decide) hsh (Nat.zero_lt_succ 1)
  have c2 := Lib.run_from_unsafe (P := Tryd.prog) w ⟨b, 0, none⟩ Tryd.underlying100 Tryd.underlying69 hj hsh lies_bld
  have c3 : ∀ x W, (callFunc 88 #[x]).run Tryd.prog W = .ok (.value x) W := fun x W => by
    rw [run_callFunc_extern Tryd.func88 (by kernel_rfl) (by kernel_rfl) (by kernel_rfl) (e := Extern.AbiNoEscape.same) (by kernel_rfl), Lib.run_noEscape]
    rfl
  go_enter Tryd.func73, Tryd.ntmps73
  go_wp2_with fail
  go_end0
  exact ⟨rfl, rfl⟩
/-- A builder in block b that holds these bytes, in a row from block R on. -/
def BldS (R b : Nat) (p : Value) (bs : List Value) (w : World) : Prop :=
  b < R ∧ R ≤ w.heap.size ∧ ∃ v, w.heap[b]? = some (.cells #[p, v] 71 (0, 0)) ∧ w.ownsRow R 5 1 v bs.length bs
def Bld (R b : Nat) (bs : List Value) (w : World) : Prop := BldS R b (.pointer none) bs w ∨ BldS R b (.pointer (some ⟨b, 0, none⟩)) bs w
/-- All but the builder is as it was. -/
def Kp (R b : Nat) (w w' : World) : Prop := Below b w w' ∧ ∀ i, i < R → i ≠ b → w'.heap[i]? = w.heap[i]?
theorem Kp.trans {R b : Nat} {w w1 w2 : World} (h : Kp R b w w1) (k : Kp R b w1 w2) : Kp R b w w2 := ⟨h.1.trans k.1, fun i hi hn => (k.2 i hi hn).trans (h.2 i hi hn)⟩
theorem Kp.refl (R b : Nat) (w : World) : Kp R b w w := ⟨Below.refl _ _, fun _ _ _ => rfl⟩
theorem BldS.at {R b : Nat} {p : Value} {bs : List Value} {w : World} (h : BldS R b p bs w) : Lib.BuilderAt 71 5 b b p bs w := by
  obtain ⟨h1, h2, v, h3, h4⟩ := h
  exact ⟨Nat.le_refl _, v, h3, own_weaken h4 (by omega), fun e => by have := own_base h4 b e; omega⟩
theorem Bld.is {R b : Nat} {bs : List Value} {w : World} (h : Bld R b bs w) : Lib.IsBuilder 71 5 b b bs w := h.elim (fun h => .inl h.at) (fun h => .inr h.at)
theorem Bld.le {R b : Nat} {bs : List Value} {w : World} (h : Bld R b bs w) : R ≤ w.heap.size := h.elim (fun h => h.2.1) (fun h => h.2.1)
theorem BldS.below {R b : Nat} {p : Value} {bs : List Value} {w w1 : World} (h : BldS R b p bs w) (hb : Below w.heap.size w w1) : BldS R b p bs w1 := by
  obtain ⟨h1, h2, v, h3, h4⟩ := h
  exact ⟨h1, Nat.le_trans h2 hb.size, v, blk_below h3 hb, pw_own_below h4 hb⟩
theorem Bld.below {R b : Nat} {bs : List Value} {w w1 : World} (h : Bld R b bs w) (hb : Below w.heap.size w w1) : Bld R b bs w1 := h.elim (fun h => .inl (h.below hb)) (fun h => .inr (h.below hb))
theorem Bld.lt {R b : Nat} {bs : List Value} {w : World} (h : Bld R b bs w) : b < R := h.elim (fun h => h.1) (fun h => h.1)
theorem Kp.below {R b : Nat} {w0 w w1 : World} (h : Kp R b w0 w) (hR : R ≤ w.heap.size) (hb : Below w.heap.size w w1) (hbR : b < R := by assumption) : Kp R b w0 w1 :=
  ⟨h.1.trans (hb.mono (by omega)), fun i hi hn => (hb.block i (by omega)).trans (h.2 i hi hn)⟩
theorem check_any (R b : Nat) (bs : List Value) (w : World) (h : Bld R b bs w) :
    Calls Tryd.prog 73 #[.pointer (some ⟨b, 0, none⟩)] w fun e w' => e = .returned (.tuple #[]) ∧ BldS R b (.pointer (some ⟨b, 0, none⟩)) bs w' ∧ Kp R b w w' := by
  rcases h with h | h
  · refine (check_fresh b w h.at.cell0 h.at.shape h.at.frozen0).mono ?_
    rintro e w' ⟨rfl, rfl⟩
    obtain ⟨h1, h2, v, h3, h4⟩ := h
    have hne : some b ≠ v.ownBlock := fun e => by have := own_base h4 b e.symm; omega
    refine ⟨rfl, ⟨h1, by simpa using h2, v, ?_, own_setCell h4 hne _⟩, (Below.refl b w).setCell (p := ⟨b, 0, none⟩) (Nat.le_refl _) _, fun i hi hn => Below.heap_setCell w ⟨b, 0, none⟩ _ i hn⟩
    rw [blk_set h3 0]; rfl
  · refine (check_used b w h.at.cell0).mono ?_
    rintro e w' ⟨rfl, rfl⟩
    exact ⟨rfl, h, Kp.refl _ _ _⟩
theorem grown_end {R b : Nat} {w w1 W w2 : World} {v v1 : Value} {bs cs : List Value} (hk1 : Kp R b w w1) (hw : Below w1.heap.size w1 W) (h1 : b < R) (h2 : R ≤ w1.heap.size) (hbk : w1.heap[b]? = some (.cells #[.pointer (some ⟨b, 0, none⟩), v] 71 (0, 0)))
    (hown : w1.ownsRow R 5 1 v bs.length bs) (hown1 : w2.ownsRow R 5 1 v1 (bs ++ cs).length (bs ++ cs)) (hg : W.grownBy w2 v.ownBlock) :
    w2.cell? ⟨b, 1, none⟩ = some v ∧ w2.frozen? ⟨b, 1, none⟩ = false ∧ BldS R b (.pointer (some ⟨b, 0, none⟩)) (bs ++ cs) (w2.setCell ⟨b, 1, none⟩ v1) ∧ Kp R b w (w2.setCell ⟨b, 1, none⟩ v1) := by
  have hlt : b < w1.heap.size := blk_lt hbk
  have hW : W.heap[b]? = some (.cells #[.pointer (some ⟨b, 0, none⟩), v] 71 (0, 0)) := (hw.block b hlt).trans hbk
  have hge : ∀ k, v.ownBlock = some k → R ≤ k := fun k hk => own_base hown k hk
  have hge1 : ∀ k, v1.ownBlock = some k → R ≤ k := fun k hk => own_base hown1 k hk
  have hb2 : w2.heap[b]? = some (.cells #[.pointer (some ⟨b, 0, none⟩), v] 71 (0, 0)) := (hg.block b (blk_lt hW) (fun e => by have := hge b e.symm; omega)).trans hW
  have hsz : W.heap.size ≤ w2.heap.size := hg.size
  have hne1 : some b ≠ v1.ownBlock := fun e => by have := hge1 b e.symm; omega
  have hBW : Below b w W := hk1.1.trans (hw.mono (Nat.le_of_lt hlt))
  refine ⟨blk_cell hb2 1, blk_frozen hb2 1, ⟨h1, ?_, v1, ?_, own_setCell hown1 hne1 _⟩, ?_, fun i hi hn => ?_⟩
  · have := hw.size; simp; omega
  · rw [blk_set hb2 1]; rfl
  · exact (hBW.grown hg (by have := hw.size; omega) (fun k hk => by have := hge k hk; omega)).setCell (Nat.le_refl _) v1
  · rw [Below.heap_setCell w2 ⟨b, 1, none⟩ v1 i hn, hg.block i (by have := hw.size; omega) (fun e => by have := hge i e.symm; omega), hw.block i (by omega)]
    exact hk1.2 i hi hn
set_option maxRecDepth 100000 in
set_option maxHeartbeats 2000000 in
theorem byte_any (B b : Nat) (bs : List Value) (c : Int) (w : World) (h : Bld B b bs w) (hlen : bs.length + 1 ≤ 100000) :
    Calls Tryd.prog 50 #[.pointer (some ⟨b, 0, none⟩), .int .u8 c] w fun e w' => e = .returned .nilIface ∧ BldS B b (.pointer (some ⟨b, 0, none⟩)) (bs ++ [.int .u8 c]) w' ∧ Kp B b w w' := by
  obtain ⟨i0, hi, hz0, hz1, hz2⟩ := info_parts info_u8
  have CC := Aside0.mk (check_any B b bs w h)
  clear h
  go_enter Tryd.func50, Tryd.ntmps50
  go_wp2_with (go_at_call 73; (with_reducible refine CC.out.mono ?_))
  rintro e w1 ⟨rfl, h1, hb1⟩
  obtain ⟨hB, hR, v, hbk, hown⟩ := h1
  have c1 : w1.cell? ⟨b, 1, none⟩ = some v := blk_cell hbk 1
  have HB1 := Aside0.mk hb1
  have HBK := Aside0.mk hbk
  have HOW := Aside0.mk hown
  clear hb1 hbk hown
  go_wp2_with (at_builtin; refine wpList_append_own _ rfl _ _ 22 rfl B 5 i0 (.int .u8 0) 1 1 Tryd.underlying22 hi hz0 hz1 hz2 rfl (by decide) _ _ _ rfl (HOW.out.alloc _) ⟨w1.heap.size, 0, none⟩ 1 1 [.int .u8 c] rfl rfl ?c1 ?c2 ?c3 ?c4 ?c5 ?_)
  case c1 =>
    intro j u hj
    match j, hj with
    | 0, hj => simp at hj; subst hj; simp [Addr.add]
  case c2 => intro u hu; simp at hu; subst hu; rfl
  case c3 => unfold maxLen; omega
  case c4 => omega
  case c5 => simp; omega
  intro v' w2 hown' hgrow _
  obtain ⟨d1, f1, k1, k2⟩ := grown_end (cs := [.int .u8 c]) HB1.out (below_alloc (Below.refl _ _) _) hB hR HBK.out HOW.out (by simpa using hown') hgrow
  obtain ⟨g, cap, rfl⟩ : ∃ g cap, v' = .slice (some ⟨g, 0, none⟩) (bs.length + 1) cap := by
    rcases hown'.2 with ⟨_, h0⟩ | ⟨g, cap, cur, hv, _⟩
    · omega
    · exact ⟨g, cap, hv⟩
  have K1 := Aside0.mk k1
  have K2 := Aside0.mk k2
  clear k1 k2 hown' hgrow
  go_wp2_with fail
  go_ret
  exact ⟨rfl, K1.out, K2.out⟩
set_option maxRecDepth 100000 in
set_option maxHeartbeats 2000000 in
theorem string_any (B b : Nat) (bs : List Value) (s : ByteArray) (w : World) (h : Bld B b bs w) (hlen : bs.length + s.size ≤ 100000) :
    Calls Tryd.prog 48 #[.pointer (some ⟨b, 0, none⟩), .string s] w fun e w' => e = .returned (.tuple #[.int .i64 s.size, .nilIface]) ∧ BldS B b (.pointer (some ⟨b, 0, none⟩)) (bs ++ Lib.strCells s) w' ∧ Kp B b w w' := by
  obtain ⟨i0, hi, hz0, hz1, hz2⟩ := info_parts info_u8
  have CC := Aside0.mk (check_any B b bs w h)
  clear h
  go_enter Tryd.func48, Tryd.ntmps48
  go_wp2_with (go_at_call 73; (with_reducible refine CC.out.mono ?_))
  rintro e w1 ⟨rfl, h1, hb1⟩
  obtain ⟨hB, hR, v, hbk, hown⟩ := h1
  have c1 : w1.cell? ⟨b, 1, none⟩ = some v := blk_cell hbk 1
  have HB1 := Aside0.mk hb1
  have HBK := Aside0.mk hbk
  have HOW := Aside0.mk hown
  clear hb1 hbk hown
  go_wp2_with (at_builtin; refine Lib.wpList_append_own_string _ rfl _ _ 22 9 rfl B 5 i0 Tryd.underlying22 Tryd.underlying9 hi hz0 hz1 hz2 _ _ _ rfl HOW.out s rfl ?c3 ?c4 ?c5 ?_)
  case c3 => unfold maxLen; omega
  case c4 => omega
  case c5 => exact hR
  intro v' w2 hown' hgrow _
  obtain ⟨d1, f1, k1, k2⟩ := grown_end (cs := Lib.strCells s) HB1.out (Below.refl _ _) hB hR HBK.out HOW.out (by simpa [Lib.strCells_length] using hown') hgrow
  obtain ⟨ao, n', cap, rfl⟩ : ∃ ao n' cap, v' = .slice ao n' cap := by
    rcases hown'.2 with ⟨hv, _⟩ | ⟨g, cap, cur, hv, _⟩
    · exact ⟨_, _, _, hv⟩
    · exact ⟨_, _, _, hv⟩
  have K1 := Aside0.mk k1
  have K2 := Aside0.mk k2
  clear k1 k2 hown' hgrow
  go_wp2_with fail
  go_ret2
  exact ⟨rfl, K1.out, K2.out⟩
end Go.Proofs.YtmenjcjpihpjjaaDoor.Tm
