/- slices.Concat of rows of places: one behind the other, in new memory. -/
import Derived.Test.YtbaegfjoionojaaDoorQaM
import Derived.Test.YtbaegfjoionojaaDoorShelfB
set_option linter.unusedSimpArgs false
set_option linter.unusedVariables false
namespace Go.Proofs.YtbaegfjoionojaaDoor.Qa
open Go Go.RowKit Go.Proofs.YtbaegfjoionojaaDoor.Qy Go.Proofs.YtbaegfjoionojaaDoor.Tm Go.Proofs.YtbaegfjoionojaaDoorW.PrintWords

section
variable {P : Program} {ops : Array Oper} {rest : List Oper} {o : Oper} {a : Act} {Q : Exit → Act → World → Prop}
theorem nat_append_ints {W : World} (base : Nat) (hgd : o.guard = none) (s x : Operand) (t e : TypeId)
    (ho : o.op = .call { callee := .builtin .append, args := #[s, x], argTypes := #[t, t] })
    (ht : P.underlying t = some (.slice e)) (hinfo : (P.info? e).map (fun i => (i.zero, i.size, i.bytes)) = some (some (.int .i64 0), 1, 8)) (v : Value) (xs ys : List Nat) (hs : a.eval s = v) (B off cap : Nat) (hx : a.eval x = .slice (some ⟨B, off, none⟩) ys.length cap)
    (hy : ∀ (j n : Nat), ys[j]? = some n → W.cell? ⟨B, off + j, none⟩ = some (.int .i64 (n : Int))) (HO : W.ownsRow base e 1 v xs.length (ns xs)) (hbase : base ≤ W.heap.size) (hl : xs.length + ys.length ≤ 1000000)
    (h : ∀ v1 w1, w1.ownsRow base e 1 v1 (xs ++ ys).length (ns (xs ++ ys)) → W.grownBy w1 v.ownBlock → (v1.ownBlock = v.ownBlock ∨ ∃ g, v1.ownBlock = some g ∧ W.heap.size ≤ g) → wpList P ops Q rest (a.put o.dst v1) w1) : wpList P ops Q (o :: rest) a W := by
  refine wpList_plain hgd fun K hK => ?_
  obtain ⟨v1, w1, hr, h1, h2, h3⟩ := run_ints (W := W) base t e o.type ht hinfo v xs ys B off cap hy HO hbase hl
  unfold Oper.wp execOp
  simp only [ho, resolve, invoke, builtin, Sem.run_bind, Sem.run_pure, Result.andThen_ok, List.map_toArray, List.map_cons, List.map_nil, hs, hx, hr]
  exact hK _ _ (h v1 w1 h1 h2 h3)
end
theorem zero_size (n : Nat) : (Builtin.zeroCells (Value.int .i64 0).cells n).size = n := by
  simp [Builtin.zeroCells, Value.cells]
theorem grow_any (m : Nat) (w : World) (h0 : 0 < m) (hm : m ≤ 1000000) : Calls Tryd.prog 142 #[.slice none 0 0, .int .i64 (m : Int)] w fun e w' => ∃ v, e = .returned v ∧ RowI w' w.heap.size v [] ∧ Below w.heap.size w w' := by
  obtain ⟨i0, hi, hzz⟩ := Option.map_eq_some_iff.1 info_int
  simp only [Prod.mk.injEq] at hzz
  obtain ⟨hz0, hz1, hz2⟩ := hzz
  refine (Any8.slices_Grow_grow Tryd.growI i0 (.int .i64 0) hi hz0 (by omega) none 0 0 m [] w (Nat.le_refl _) (by omega) (by rw [hz2]; omega) (by omega) (by simp) (fun _ => rfl) (fun a h => by cases h)).mono ?_
  rintro e w' ⟨rfl, rfl⟩
  have hG := grownCap_ge w (0 + m) 0 (Tryd.growI_ren.t 25)
  have hG2 := grownCap_le_maxLen w (0 + m) 0 (Tryd.growI_ren.t 25) (by unfold maxLen; omega)
  obtain ⟨G, hGG⟩ : ∃ G, grownCap w (0 + m) 0 (Tryd.growI_ren.t 25) = G := ⟨_, rfl⟩
  rw [hGG] at hG hG2 ⊢
  refine ⟨_, rfl, ?_, (below_drew (Below.refl _ _)).alloc (Nat.le_refl _) _⟩
  exact World.ownsRow_made (base := w.heap.size) (size := 1) (e := 3) w.drew _ _ (Nat.le_refl _) hG2 (by rw [Nat.mul_one]; simp only [Array.size_append, zero_size, List.size_toArray, List.length_nil]; omega)
/-- The first rows, one behind the other. -/
def cat (zs : List (List Nat)) (k : Nat) : List Nat := (zs.take k).flatten
theorem cat_succ {zs : List (List Nat)} {k : Nat} {z : List Nat} (h : zs[k]? = some z) : cat zs (k + 1) = cat zs k ++ z := by
  obtain ⟨hi, e⟩ := List.getElem?_eq_some_iff.1 h
  unfold cat
  rw [List.take_succ_eq_append_getElem hi, e, List.flatten_append, List.flatten_singleton]
theorem cat_len {zs : List (List Nat)} (h : ∀ z ∈ zs, z.length ≤ 1000) : ∀ k, k ≤ zs.length → (cat zs k).length ≤ 1000 * k
  | 0, _ => by simp [cat]
  | k + 1, hk => by
    have ih := cat_len h k (by omega)
    rw [cat_succ (List.getElem?_eq_getElem (show k < zs.length by omega)), List.length_append]
    have := h zs[k] (List.getElem_mem _)
    omega
set_option maxRecDepth 100000 in
set_option maxHeartbeats 8000000 in
theorem concat_any (w : World) (gv : Nat) (zs : List (List Nat)) (hz : ∀ (k : Nat) z, zs[k]? = some z → ∃ (A : Option Addr) (c : Nat), w.cell? ⟨gv, k, none⟩ = some (.slice A z.length c) ∧ IntsAt w anyB A z) (h0 : ∀ z ∈ zs, 0 < z.length) (h1 : ∀ z ∈ zs, z.length ≤ 1000) (hn : zs.length ≤ 100) (hp : 0 < zs.length) (n : Nat) (hzn : zs.length = n) :
    Calls Tryd.prog 119 #[.slice (some ⟨gv, 0, none⟩) n n] w fun e w' => ∃ v, e = .returned v ∧ RowI w' w.heap.size v (cat zs zs.length) ∧ Below w.heap.size w w' := by
  have HZ := Aside0.mk hz
  have H0 := Aside0.mk h0
  have HL := Aside0.mk (cat_len h1)
  have H1 := Aside0.mk h1
  have hpos : 0 < (cat zs zs.length).length := by
    obtain ⟨m, hm⟩ : ∃ m, zs.length = m + 1 := ⟨zs.length - 1, by omega⟩
    have e : zs[m]? = some (zs[m]'(by omega)) := List.getElem?_eq_getElem _
    rw [hm, cat_succ e, List.length_append]
    have := h0 _ (List.getElem_mem (show m < zs.length by omega))
    omega
  have htot := cat_len h1 zs.length (Nat.le_refl _)
  clear hz h0 h1
  go_enter Tryd.func119, Tryd.ntmps119
  go_wp2_with fail
  go_loopw [3, 11] (fun x y wr => ∃ k : Nat, k ≤ zs.length ∧ y = .int .i64 k ∧ x = .int .i64 ((cat zs k).length : Int) ∧ Aside0 (wr = w)) (fun _ y _ => zs.length - (intOf y).toNat)
  case atStart => exact ⟨0, by omega, rfl, rfl, ⟨rfl⟩⟩
  case round =>
    obtain ⟨k, hk, rfl, rfl, hw⟩ := hrel
    obtain rfl := hw.out.symm
    have hlk := HL.out k hk
    by_cases hin : k < zs.length
    · obtain ⟨z, hzk⟩ : ∃ z, zs[k]? = some z := ⟨zs[k]'hin, List.getElem?_eq_getElem _⟩
      obtain ⟨A, c, hcell, -⟩ := HZ.out k z hzk
      have hzl := H1.out z (List.mem_of_getElem? hzk)
      have hst := cat_succ hzk
      have HST : Aside0 ((cat zs (k + 1)).length = (cat zs k).length + z.length) := ⟨by rw [hst, List.length_append]⟩
      obtain ⟨m, hm⟩ : ∃ m, (cat zs k).length = m := ⟨_, rfl⟩
      rw [hm] at HST hlk
      rw [hm]
      have g0 : (0 : Int) ≤ (k : Int) := by omega
      have g1 : (k : Int) < (n : Int) := by omega
      have g2 : ¬ ((m : Int) + (z.length : Int) < 0) := by omega
      have n2 : decide ((m : Int) + (z.length : Int) < 0) = false := decide_eq_false g2
      clear hzk hst hm
      go_wp2_with fail
      go_roundw
      case rel => exact ⟨k + 1, by omega, by go_num, by rw [HST.out]; go_num, ⟨by first | trivial | rfl⟩⟩
      case measure => simp [intOf]; omega
    · obtain rfl : k = zs.length := by omega
      obtain ⟨m, hm⟩ : ∃ m, (cat zs zs.length).length = m := ⟨_, rfl⟩
      rw [hm] at hlk hpos htot
      rw [hm]
      have HM := Aside0.mk hm
      clear hm
      have CG := Aside0.mk (grow_any m w hpos (by omega))
      go_wp2_with (go_at_call 142; (with_reducible refine CG.out.mono ?_); rintro e w1 ⟨v, rfl, hv, hb⟩; have HV := Aside0.mk hv; have HB := Aside0.mk hb; clear hv hb)
      obtain ⟨A1, c1, hv1⟩ := own_slice HV.out
      rw [List.length_nil] at hv1
      subst hv1
      go_loopw [6, 27] (fun x y wr => ∃ k : Nat, k ≤ zs.length ∧ y = .int .i64 k ∧ Aside0 (RowI wr w.heap.size x (cat zs k)) ∧ Aside0 (Below w.heap.size w wr)) (fun _ y _ => zs.length - (intOf y).toNat)
      case atStart => exact ⟨0, by omega, rfl, HV, HB⟩
      case round =>
        obtain ⟨wk, rfl⟩ : ∃ x, x = wr := ⟨wr, rfl⟩
        obtain ⟨k, hk, rfl, HR, HBk⟩ := hrel
        obtain ⟨A2, c2, hv2⟩ := own_slice HR.out
        by_cases hin : k < zs.length
        · obtain ⟨z, hzk⟩ : ∃ z, zs[k]? = some z := ⟨zs[k]'hin, List.getElem?_eq_getElem _⟩
          obtain ⟨A, c, hcell, hi⟩ := HZ.out k z hzk
          obtain ⟨zb, zo, rfl, -, hzc⟩ := hi.2 (H0.out z (List.mem_of_getElem? hzk))
          have hzl := H1.out z (List.mem_of_getElem? hzk)
          have HST := Aside0.mk (cat_succ hzk)
          have hcell2 := pw_cell_below HBk.out hcell
          have HZC : Aside0 (∀ (j m : Nat), z[j]? = some m → wk.cell? ⟨zb, zo + j, none⟩ = some (.int .i64 (m : Int))) := ⟨fun j m hm => pw_cell_below HBk.out (hzc j m hm)⟩
          have hlk := HL.out k hk
          obtain ⟨r, hr⟩ : ∃ r, cat zs k = r := ⟨_, rfl⟩
          rw [hr] at HR HST hlk hv2
          have g0 : (0 : Int) ≤ (k : Int) := by omega
          have g1 : (k : Int) < (n : Int) := by omega
          have hbs : w.heap.size ≤ wk.heap.size := HBk.out.size
          have HNX : Aside0 (∀ v1 w1, World.ownsRow w1 w.heap.size 3 1 v1 (r ++ z).length (ns (r ++ z)) → wk.grownBy w1 (Value.slice A2 r.length c2).ownBlock → RowI w1 w.heap.size v1 (cat zs (k + 1)) ∧ Below w.heap.size w w1) := ⟨fun v1 w1 h1 h2 => ⟨by rw [HST.out]; exact h1, HBk.out.grown h2 hbs (fun j hj => own_base HR.out j (by rw [hv2]; exact hj))⟩⟩
          subst hv2
          clear hzk hcell hi hzc hr
          go_wp2_with ((with_reducible refine gate_builtin (b := .append) (xs := #[.tmp 31, .tmp 32]) rfl ?_); at_builtin; refine nat_append_ints (W := wk) w.heap.size rfl (.tmp 31) (.tmp 32) 71 3 rfl Tryd.underlying71 info_int (.slice A2 r.length c2) r z rfl zb zo c rfl HZC.out HR.out hbs (by omega) ?_; intro v7 w7 ho hg hat; obtain ⟨hR7, hB7⟩ := HNX.out v7 w7 ho hg; have HR7 := Aside0.mk hR7; have HB7 := Aside0.mk hB7; clear ho hg hat hR7 hB7)
          go_roundw
          case rel => exact ⟨k + 1, by omega, by go_num, HR7, HB7⟩
          case measure => simp [intOf]; omega
        · obtain rfl : k = zs.length := by omega
          subst hv2
          go_wp2_with fail
          go_ret
          exact ⟨_, rfl, HR.out, HBk.out⟩
end Go.Proofs.YtbaegfjoionojaaDoor.Qa
