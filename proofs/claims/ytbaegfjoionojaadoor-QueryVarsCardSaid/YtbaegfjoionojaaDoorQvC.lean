/- The walk of query.Vars. -/
import Derived.Test.YtbaegfjoionojaaDoorQvB
set_option linter.unusedSimpArgs false
set_option linter.unusedVariables false
namespace Go.Proofs.YtbaegfjoionojaaDoor.Qy
open Go Go.RowKit Go.Proofs.YtbaegfjoionojaaDoor.Tm Go.Proofs.YtbaegfjoionojaaDoorW.PrintWords

theorem pat_cells {w : World} {a : Pat} {cs : List Value} (h : PatAt w a cs) : ∃ (k : Int) (t : ByteArray) (A : Option Addr) (n c : Nat) (B : Option Addr) (m d : Nat), PathAt w anyB a.p [.int .i64 k, .string t, .slice A n c, .slice B m d] ∧
    cs = [.string a.s.v, .int .i64 a.s.tm.k, .string a.s.tm.t, .string a.s.tm.x, .int .i64 k, .string t, .slice A n c, .slice B m d, .string a.o.v, .int .i64 a.o.tm.k, .string a.o.tm.t, .string a.o.tm.x] := by
  obtain ⟨pcs, e, hp⟩ := h
  obtain ⟨⟨v, ⟨tk, tt, tx⟩⟩, ⟨k, t, ts, ks⟩, ⟨v2, ⟨tk2, tt2, tx2⟩⟩⟩ := a
  obtain ⟨A, c, B, d, rfl, -⟩ := p_cells hp
  exact ⟨_, _, _, _, _, _, _, _, hp, e⟩
theorem pair_add (l : List ByteArray) (p : Pat) : addP l p = ([p.s.v, p.o.v].foldl addV l) := rfl
theorem boxO (w : World) (c : Array Value) (ty : TypeId) : ∃ wb, wb = w.alloc (.cells c ty) ∧ Aside0 (Below w.heap.size w wb) ∧ Aside0 (wb.heap[w.heap.size]? = some (.cells c ty (0, 0))) ∧ wb.heap.size = w.heap.size + 1 := ⟨_, rfl, ⟨below_alloc (Below.refl _ _) _⟩, ⟨heap_alloc_new _ _⟩, by simp⟩
theorem row_ts {w : World} {b : Nat} {ts : List ByteArray} {ty : TypeId} (h : w.heap[b]? = some (.cells (ts.map Value.string).toArray ty (0, 0))) : ∀ (j : Nat) t, ts[j]? = some t → w.cell? ⟨b, 0 + j, none⟩ = some (.string t) := by
  intro j t ht
  rw [Nat.zero_add]
  rw [blk_cell h j]
  simp [ht]
theorem fold_take {vs : List ByteArray} {l0 : List ByteArray} {k : Nat} {v : ByteArray} (h : vs[k]? = some v) : (vs.take (k + 1)).foldl addV l0 = addV ((vs.take k).foldl addV l0) v := by
  obtain ⟨hi, e⟩ := List.getElem?_eq_some_iff.1 h
  rw [List.take_succ_eq_append_getElem hi, e, List.foldl_append]; rfl
theorem fold_len : ∀ (vs l0 : List ByteArray), (vs.foldl addV l0).length ≤ l0.length + vs.length
  | [], l0 => by simp
  | v :: vs, l0 => by
    have := fold_len vs (addV l0 v)
    have := addV_len l0 v
    simp only [List.foldl_cons, List.length_cons]
    omega
/-- What Vars answers: new texts. -/
def VarsP (w : World) (l : List ByteArray) (e : Ending) (w' : World) : Prop := ∃ (A : Option Addr) (c : Nat), e = .returned (.slice A l.length c) ∧ l.length ≤ c ∧ TsAt w' anyB A l ∧ Below w.heap.size w w'
set_option maxRecDepth 100000 in
set_option maxHeartbeats 8000000 in
theorem vars_any (q : Qry) (w : World) (A : Option Addr) (c : Nat) (B : Option Addr) (c' : Nat) (D : Option Addr) (d : Nat) (hps : RowAt w B 12 q.pats (PatAt w)) (hl : q.pats.length ≤ 1000) :
    Calls Tryd.prog 48 #[.agg #[.bool q.ask, .slice A q.vars.length c, .slice B q.pats.length c', .slice D q.fils.length d, .int .i64 q.lim, .int .i64 q.off]] w (VarsP w (varsL q.pats)) := by
  obtain ⟨wb, hwb, HB, HN⟩ : ∃ wb, wb = w.alloc (.cells #[.bool q.ask, .slice A q.vars.length c, .slice B q.pats.length c', .slice D q.fils.length d, .int .i64 q.lim, .int .i64 q.off] 68) ∧ Aside0 (Below w.heap.size w wb) ∧ Aside0 (wb.heap[w.heap.size]? = some (.cells #[.bool q.ask, .slice A q.vars.length c, .slice B q.pats.length c', .slice D q.fils.length d, .int .i64 q.lim, .int .i64 q.off] 68 (0, 0))) := ⟨_, rfl, ⟨below_alloc (Below.refl _ _) _⟩, ⟨heap_alloc_new _ _⟩⟩
  have HHW : Aside0 (w.alloc (.cells #[.bool q.ask, .slice A q.vars.length c, .slice B q.pats.length c', .slice D q.fils.length d, .int .i64 q.lim, .int .i64 q.off] 68) = wb) := ⟨hwb.symm⟩
  have HPS := Aside0.mk (hps.below HB.out (fun a cs h => h.below HB.out))
  obtain ⟨ps, hpe⟩ : ∃ ps, q.pats = ps := ⟨_, rfl⟩
  rw [hpe] at hl HHW HN HPS ⊢
  have HBS : Aside0 (w.heap.size ≤ wb.heap.size) := ⟨HB.out.size⟩
  clear hwb hps hpe
  go_enter Tryd.func48, Tryd.ntmps48
  go_upto_region 2 with (fail)
  rw [HHW.out]
  have q1 := blk_cell HN.out 2
  simp at q1
  go_wp2_with fail
  go_loopw [3, 11] (fun x y wr => ∃ i : Nat, i ≤ ps.length ∧ y = .int .i64 i ∧ Aside0 (Kd.string.R 9 wr wb.heap.size (fun _ => True) x (varsL (ps.take i))) ∧ Aside0 (Below wb.heap.size wb wr)) (fun _ y _ => ps.length - (intOf y).toNat)
  case atStart => exact ⟨0, by omega, rfl, ⟨Kd.R_nil _ _ _ _ _⟩, ⟨Below.refl _ _⟩⟩
  case round =>
    obtain ⟨wv, rfl⟩ : ∃ x, x = wr := ⟨wr, rfl⟩
    obtain ⟨i, hi, rfl, HR, HBv⟩ := hrel
    clear q1
    by_cases hin : i < ps.length
    · obtain ⟨p, hp⟩ : ∃ p, ps[i]? = some p := ⟨ps[i]'hin, List.getElem?_eq_getElem _⟩
      obtain ⟨pb, po, cs, rfl, hc, hpa⟩ := HPS.out.below HBv.out (fun a cs h => h.below HBv.out) i p hp
      obtain ⟨k, t, A5, n5, c5, B5, m5, d5, hpp, rfl⟩ := pat_cells hpa
      have a0 := hc 0 _ rfl
      have a1 := hc 1 _ rfl
      have a2 := hc 2 _ rfl
      have a3 := hc 3 _ rfl
      have a4 := hc 4 _ rfl
      have a5 := hc 5 _ rfl
      have a6 := hc 6 _ rfl
      have a7 := hc 7 _ rfl
      have a8 := hc 8 _ rfl
      have a9 := hc 9 _ rfl
      have a10 := hc 10 _ rfl
      have a11 := hc 11 _ rfl
      simp only [Nat.add_zero] at a0
      have g0 : (0 : Int) ≤ (i : Int) := by omega
      have g1 : (i : Int) < (ps.length : Int) := by omega
      have HP := Aside0.mk hp
      clear hc hp hpa hpp
      go_upto_region 5 with (fail)
      obtain ⟨wy, hwy, HY, HNy, hsy⟩ := boxO wv #[.string p.s.v, .int .i64 p.s.tm.k, .string p.s.tm.t, .string p.s.tm.x, .int .i64 k, .string t, .slice A5 n5 c5, .slice B5 m5 d5, .string p.o.v, .int .i64 p.o.tm.k, .string p.o.tm.t, .string p.o.tm.x] 78
      rw [← hwy]
      have z0 := blk_cell HNy.out 0
      have z8 := blk_cell HNy.out 8
      simp at z0 z8
      have HBy := Aside0.mk (below_then HBv.out HBv.out.size HY.out)
      have HRy := Aside0.mk (Kd.R_step HR.out (fun k hk hl => HY.out.block k hl))
      clear hwy hsy HR a0 a1 a2 a3 a4 a5 a6 a7 a8 a9 a10 a11
      go_wp2_with fail
      obtain ⟨wz, hwz, HZ, HNz, hsz⟩ := boxO wy #[.string p.s.v, .string p.o.v] 9
      rw [← hwz]
      obtain ⟨bz, hbz⟩ : ∃ b, wy.heap.size = b := ⟨_, rfl⟩
      have HBz := Aside0.mk (below_then HBy.out HBy.out.size HZ.out)
      have HRz : Aside0 (Kd.string.R 9 wz wb.heap.size (fun g => g ≠ bz) u3 (varsL (ps.take i))) := ⟨Kd.R_mono (Kd.R_step (Kd.R_bound HRy.out) (fun k hk hl => HZ.out.block k hl)) (fun k hk => by have := hk.2.2.1; omega)⟩
      rw [hbz] at HNz ⊢
      obtain ⟨vs, hvs⟩ : ∃ vs, [p.s.v, p.o.v] = vs := ⟨_, rfl⟩
      have HVC : Aside0 (∀ (W : World), W.heap[bz]? = wz.heap[bz]? → ∀ (j : Nat) v, vs[j]? = some v → W.cell? ⟨bz, 0 + j, none⟩ = some (.string v)) := ⟨fun W hW => by rw [← hvs]; exact row_ts (ts := [p.s.v, p.o.v]) (hW.trans HNz.out)⟩
      have hbzl : bz < wz.heap.size := by rw [hsz, hbz]; omega
      have HVL : Aside0 (vs.length = 2) := ⟨by rw [← hvs]; rfl⟩
      have HADD : Aside0 (vs.foldl addV (varsL (ps.take i)) = varsL (ps.take (i + 1))) := ⟨by rw [varsL_take HP.out, ← hvs]; rfl⟩
      have hll := varsL_len ps i hi
      obtain ⟨l0, hl0⟩ : ∃ l, varsL (ps.take i) = l := ⟨_, rfl⟩
      rw [hl0] at HRz HADD hll
      clear hwz hsz HRy z0 z8 hbz hvs hl0
      go_loopw [3, 23] (fun x y wr => ∃ k : Nat, k ≤ 2 ∧ y = .int .i64 k ∧ Aside0 (Kd.string.R 9 wr wb.heap.size (fun g => g ≠ bz) x ((vs.take k).foldl addV l0)) ∧ Aside0 (Below wb.heap.size wb wr) ∧ bz < wr.heap.size ∧ Aside0 (wr.heap[bz]? = wz.heap[bz]?)) (fun _ y _ => 2 - (intOf y).toNat)
      case atStart => exact ⟨0, by omega, rfl, HRz, HBz, hbzl, ⟨rfl⟩⟩
      case round =>
        obtain ⟨wk, rfl⟩ : ∃ x, x = wr := ⟨wr, rfl⟩
        obtain ⟨k, hk, rfl, HRk, HBK, hbk, HZk⟩ := hrel
        by_cases hk2 : k < 2
        · obtain ⟨v, hv⟩ : ∃ v, vs[k]? = some v := ⟨vs[k]'(by rw [HVL.out]; exact hk2), List.getElem?_eq_getElem _⟩
          have hcell := HVC.out wk HZk.out k v hv
          rw [Nat.zero_add] at hcell
          have hst := fold_take (l0 := l0) hv
          obtain ⟨l, hl⟩ : ∃ l, (vs.take k).foldl addV l0 = l := ⟨_, rfl⟩
          have hlen : l.length ≤ 2 * i + k := by
            have := fold_len (vs.take k) l0
            rw [hl, List.length_take] at this
            omega
          rw [hl] at hst HRk
          have HST := Aside0.mk hst
          obtain ⟨A1, c1, hv1, hle, hts⟩ := ts_of_R HRk.out
          subst hv1
          have CC := Aside0.mk (contains_ts hts c1 v)
          have g2 : (0 : Int) ≤ (k : Int) := by omega
          have g3 : (k : Int) < 2 := by omega
          clear hv hst hl hts
          by_cases hz : 0 < v.size
          · obtain ⟨t1, t2, t3⟩ := ne_list hz
            cases hb : Lib.containsS l v with
            | true =>
              rw [hb] at CC
              have HS2 : Aside0 (addV l v = l) := ⟨by unfold addV; rw [if_pos (.inr hb)]⟩
              clear hb hz
              go_wp2_with (go_at_call 78; (with_reducible refine CC.out.mono ?_); rintro e w5 ⟨rfl, rfl⟩)
              go_roundw
              case rel => exact ⟨k + 1, by omega, by go_num, ⟨by rw [HST.out, HS2.out]; exact HRk.out⟩, HBK, hbk, HZk⟩
              case measure => simp [intOf]; omega
            | false =>
              rw [hb] at CC
              have HS2 : Aside0 (addV l v = l ++ [v]) := ⟨by unfold addV; rw [if_neg (fun h => h.elim (fun h => by omega) (fun h => by rw [hb] at h; cases h))]⟩
              clear hb hz
              go_wp2_with (first
                | (go_at_call 78; (with_reducible refine CC.out.mono ?_); rintro e w5 ⟨rfl, rfl⟩)
                | ((with_reducible refine gate_builtin (b := .append) (xs := #[.tmp 35, .tmp 37]) rfl ?_); at_builtin; refine Kd.R_append Kd.string (w0 := wb) wb.heap.size rfl (.tmp 35) (.tmp 37) 22 9 (.string ⟨#[]⟩) 16 rfl Tryd.underlying22 qinfo_str rfl (by decide) (by omega) (.slice A1 l.length c1) l v [.string v] (fun g => g ≠ bz) (fun _ => False) rfl rfl ?aP (fun _ hk => hk.elim) ?aF ?aO ?aB ?aS ?aL ?_; (case aP => exact rfl); (case aB => exact HBK.out); (case aF => exact (fun k hk => by omega)); (case aO => exact HRk.out); (case aS => exact HBK.out.size); (case aL => omega); intro v7 w7 ho hb hg hat; have HO7 := Aside0.mk ho; have HG7 := Aside0.mk hg; have HB7 := Aside0.mk hb; clear ho hb hg hat))
              go_roundw
              case rel => exact ⟨k + 1, by omega, by go_num, ⟨by rw [HST.out, HS2.out]; exact HO7.out⟩, HB7, Nat.lt_of_lt_of_le hbk HG7.out.size, ⟨(HG7.out.block bz hbk (fun h => (HRk.out.1 bz h.symm) rfl)).trans HZk.out⟩⟩
              case measure => simp [intOf]; omega
          · obtain rfl := empty_list (show v.size = 0 by omega)
            have HS2 : Aside0 (addV l ⟨#[]⟩ = l) := ⟨by unfold addV; rw [if_pos (.inl rfl)]⟩
            clear hz
            go_wp2_with fail
            go_roundw
            case rel => exact ⟨k + 1, by omega, by go_num, ⟨by rw [HST.out, HS2.out]; exact HRk.out⟩, HBK, hbk, HZk⟩
            case measure => simp [intOf]; omega
        · obtain rfl : k = 2 := by omega
          go_wp2_with fail
          go_roundw
          case rel => exact ⟨i + 1, by omega, by go_num, ⟨by rw [← HADD.out]; have := Kd.R_mono (ok' := fun _ => True) HRk.out (fun _ _ => trivial); rwa [List.take_of_length_le (by rw [HVL.out]; exact Nat.le_refl _)] at this⟩, HBK⟩
          case measure => simp [intOf]; omega
    · have HEQ : Aside0 (varsL (ps.take i) = varsL ps) := ⟨by rw [List.take_of_length_le (by omega)]⟩
      rw [HEQ.out] at HR
      obtain ⟨A1, c1, hv1, hle, hts⟩ := ts_of_R HR.out
      subst hv1
      have HTS := Aside0.mk (hts.mono (ok' := anyB) (fun _ _ _ => trivial))
      clear hts
      go_wp2_with fail
      go_ret
      exact ⟨A1, c1, rfl, hle, HTS.out, HB.out.trans (HBv.out.mono HB.out.size)⟩
end Go.Proofs.YtbaegfjoionojaaDoor.Qy
