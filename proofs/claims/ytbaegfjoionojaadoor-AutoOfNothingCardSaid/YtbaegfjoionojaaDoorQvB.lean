/- Texts in a row: is one among them? query.Vars, the reference's Place, Vars. -/
import Derived.Test.YtbaegfjoionojaaDoorQvA
import Derived.Test.YtbaegfjoionojaaDoorQyC
set_option linter.unusedSimpArgs false
set_option linter.unusedVariables false
namespace Go.Proofs.YtbaegfjoionojaaDoor.Qy
open Go Go.RowKit Go.Proofs.YtbaegfjoionojaaDoor.Tm Go.Proofs.YtbaegfjoionojaaDoorW.PrintWords

theorem qinfo_str : (Tryd.prog.info? 9).map (fun i => (i.zero, i.size, i.bytes)) = some (some (.string ⟨#[]⟩), 1, 16) := by kernel_rfl
theorem p_cells {w : World} {ok : Nat → Prop} {k : Int} {t : ByteArray} {ts : List ByteArray} {ks : List Pth} {cs : List Value} (h : PathAt w ok (.mk k t ts ks) cs) : ∃ (A : Option Addr) (c : Nat) (B : Option Addr) (d : Nat), cs = [.int .i64 k, .string t, .slice A ts.length c, .slice B ks.length d] ∧ ts.length ≤ c ∧ ks.length ≤ d ∧ ks.length ≤ 9223372036854775807 ∧ TsAt w ok A ts ∧ KidsAt w ok B 0 ks := by
  unfold PathAt at h; exact h
theorem st_ne {a b : ByteArray} (h : a ≠ b) : (a.toList == b.toList) = false ∧ (a.toList != b.toList) = true := by
  have : a.toList ≠ b.toList := by
    intro hh
    rw [tl, tl] at hh
    exact h (ByteArray.ext (Array.ext' hh))
  exact ⟨by rw [beq_eq_false_iff_ne]; exact this, by rw [bne_iff_ne]; exact this⟩
theorem ne_list {t : ByteArray} (h : 0 < t.size) : t.toList.isEmpty = false ∧ (t.toList == []) = false ∧ (t.toList != []) = true := by
  have h1 := string_ne h
  have h2 : t.toList ≠ [] := fun e => by rw [e] at h1; cases h1
  exact ⟨h1, by rw [beq_eq_false_iff_ne]; exact h2, by rw [bne_iff_ne]; exact h2⟩
theorem gate_builtin {P : Program} {ops : Array Oper} {Q : Exit → Act → World → Prop} {o : Oper} {rest : List Oper} {a : Act} {W : World} {b : Builtin} {xs : Array Operand} {ts : Array TypeId} (_ho : o.op = .call { callee := .builtin b, args := xs, argTypes := ts }) (h : wpList P ops Q (o :: rest) a W) : wpList P ops Q (o :: rest) a W := h
theorem contains_ts {w : World} {ok : Nat → Prop} {A : Option Addr} {ts : List ByteArray} (hts : TsAt w ok A ts) (c : Nat) (v : ByteArray) : Calls Tryd.prog 78 #[.slice A ts.length c, .string v] w fun e w' => e = .returned (.bool (Lib.containsS ts v)) ∧ w' = w := by
  by_cases h0 : 0 < ts.length
  · obtain ⟨b, o, rfl, -, hc⟩ := hts.2 h0
    have hd : ts.take ts.length = ts := List.take_length
    have := Tryd.slices_Contains_string b o ts.length c ts v w (Nat.le_refl _) hts.1 (fun j hj => by
      have := hc j _ (List.getElem?_eq_getElem hj)
      rwa [List.getD_eq_getElem?_getD, List.getElem?_eq_getElem hj])
    rwa [hd] at this
  · obtain rfl := List.eq_nil_of_length_eq_zero (show ts.length = 0 by omega)
    exact Tryd.slices_Contains_string_empty A c v w
theorem mem_take {ts : List ByteArray} {v : ByteArray} {i : Nat} (h : v ∉ ts.take i) {t : ByteArray} (ht : ts[i]? = some t) (hv : v ≠ t) : v ∉ ts.take (i + 1) := by
  obtain ⟨hi, e⟩ := List.getElem?_eq_some_iff.1 ht
  rw [List.take_succ_eq_append_getElem hi, e, List.mem_append, List.mem_singleton]
  rintro (h2 | h2)
  · exact h h2
  · exact hv h2
def PlaceP (w : World) (ts : List ByteArray) (v : ByteArray) (e : Ending) (w' : World) : Prop := ∃ x : Int, e = .returned (.int .i64 x) ∧ (v ∈ ts → decide (x < 0) = false ∧ decide (0 ≤ x) = true) ∧ (v ∉ ts → decide (x < 0) = true ∧ decide (0 ≤ x) = false) ∧ w' = w
set_option maxRecDepth 100000 in
set_option maxHeartbeats 8000000 in
theorem place_any {w : World} {ok : Nat → Prop} {A : Option Addr} {ts : List ByteArray} (hts : TsAt w ok A ts) (c : Nat) (v : ByteArray) : Calls Tryd.prog 46 #[.slice A ts.length c, .string v] w (PlaceP w ts v) := by
  have HTS := Aside0.mk hts
  have hn : ts.length ≤ 9223372036854775807 := hts.1
  clear hts
  go_enter Tryd.func46, Tryd.ntmps46
  go_wp2_with fail
  go_loopw [5] (fun x wr => ∃ i : Nat, i ≤ ts.length ∧ x = .int .i64 i ∧ Aside0 (v ∉ ts.take i) ∧ Aside0 (wr = w)) (fun x _ => ts.length - (intOf x).toNat)
  case atStart => exact ⟨0, by omega, rfl, ⟨by simp⟩, ⟨rfl⟩⟩
  case round =>
    obtain ⟨i, hi, rfl, HN, hw⟩ := hrel
    obtain rfl := hw.out
    by_cases hin : i < ts.length
    · obtain ⟨t, ht⟩ : ∃ t, ts[i]? = some t := ⟨ts[i]'hin, List.getElem?_eq_getElem _⟩
      obtain ⟨tb, tf, hA, -, htc⟩ := HTS.out.2 (by omega)
      have hcell := htc i t ht
      subst hA
      have g0 : (0 : Int) ≤ (i : Int) := by omega
      have g1 : (i : Int) < (ts.length : Int) := by omega
      have HT := Aside0.mk ht
      clear htc ht
      by_cases hv : v = t
      · subst hv
        have HM : Aside0 (v ∈ ts) := ⟨List.mem_of_getElem? HT.out⟩
        go_wp2_with fail
        go_ret
        exact ⟨i, rfl, fun _ => ⟨by rw [decide_eq_false_iff_not]; omega, by rw [decide_eq_true_eq]; omega⟩, fun h => absurd HM.out h, rfl⟩
      · obtain ⟨n1, n2⟩ := st_ne (fun h : t = v => hv h.symm)
        have HN2 := Aside0.mk (mem_take HN.out HT.out hv)
        clear hv
        go_wp2_with fail
        go_roundw
        case rel => exact ⟨i + 1, by omega, by go_num, HN2, ⟨by first | trivial | rfl⟩⟩
        case measure => simp [intOf]; omega
    · have HM : Aside0 (v ∉ ts) := ⟨by
        have := HN.out
        rwa [List.take_of_length_le (by omega)] at this⟩
      go_wp2_with fail
      go_ret
      exact ⟨-1, rfl, fun h => absurd h HM.out, fun _ => ⟨by decide, by decide⟩, rfl⟩

/-! ### the variables of a query -/
def addV (l : List ByteArray) (v : ByteArray) : List ByteArray := if v.size = 0 ∨ Lib.containsS l v = true then l else l ++ [v]
def addP (l : List ByteArray) (p : Pat) : List ByteArray := addV (addV l p.s.v) p.o.v
def varsL (ps : List Pat) : List ByteArray := ps.foldl addP []
theorem addV_len (l : List ByteArray) (v : ByteArray) : (addV l v).length ≤ l.length + 1 := by
  unfold addV
  split <;> simp
theorem varsL_take {ps : List Pat} {i : Nat} {p : Pat} (h : ps[i]? = some p) : varsL (ps.take (i + 1)) = addP (varsL (ps.take i)) p := by
  obtain ⟨hi, e⟩ := List.getElem?_eq_some_iff.1 h
  unfold varsL
  rw [List.take_succ_eq_append_getElem hi, e, List.foldl_append]; rfl
theorem addP_len (l : List ByteArray) (p : Pat) : (addP l p).length ≤ l.length + 2 := by
  have h1 := addV_len l p.s.v
  have h2 := addV_len (addV l p.s.v) p.o.v
  unfold addP
  omega
theorem varsL_len (ps : List Pat) : ∀ i, i ≤ ps.length → (varsL (ps.take i)).length ≤ 2 * i
  | 0, _ => by simp [varsL]
  | i + 1, h => by
    have ih := varsL_len ps i (by omega)
    rw [varsL_take (List.getElem?_eq_getElem (show i < ps.length by omega))]
    have := addP_len (varsL (ps.take i)) ps[i]
    omega
end Go.Proofs.YtbaegfjoionojaaDoor.Qy
