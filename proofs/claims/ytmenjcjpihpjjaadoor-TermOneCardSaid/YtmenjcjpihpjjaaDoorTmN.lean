/- The walk of quoted. -/
import Derived.Test.YtmenjcjpihpjjaaDoorTmK
set_option linter.unusedSimpArgs false
set_option linter.unusedVariables false
namespace Go.Proofs.YtmenjcjpihpjjaaDoor.Tm
open Go Go.RowKit Go.Shelf Go.Proofs.YtmenjcjpihpjjaaDoorW.PrintWords

def qByte (c : UInt8) : List UInt8 := if mustB c.toNat = true then escL c.toNat else [c]
def qL (l : List UInt8) : List UInt8 := l.flatMap qByte
/-- A text as a literal. -/
def quoteL (l : List UInt8) : List UInt8 := 34 :: (qL l ++ [34])
theorem escL_len (c : Nat) : (escL c).length ≤ 6 := by
  unfold escL
  repeat' split
  all_goals simp
theorem qByte_len (c : UInt8) : (qByte c).length ≤ 6 := by
  unfold qByte
  split
  · exact escL_len _
  · simp
theorem qL_len : ∀ l : List UInt8, (qL l).length ≤ 6 * l.length
  | [] => by simp [qL]
  | c :: l => by
    have h1 := qByte_len c
    have h2 := qL_len l
    unfold qL at *
    rw [List.flatMap_cons, List.length_append, List.length_cons]; omega
theorem qL_step {l : List UInt8} {k : Nat} {c : UInt8} (h : l[k]? = some c) : qL (l.take (k + 1)) = qL (l.take k) ++ qByte c := by
  obtain ⟨hk, e⟩ := List.getElem?_eq_some_iff.1 h
  rw [List.take_succ_eq_append_getElem hk, e]
  unfold qL
  rw [List.flatMap_append]; simp
theorem conv_bytes (s : ByteArray) : ∃ (F : World → World) (g : World → Nat), (∀ W : World, (convert 9 22 (.string s)).run Tryd.prog W = .ok (.slice (some ⟨W.heap.size, 0, none⟩) s.size (g W)) (F W)) ∧
    (∀ W : World, Below W.heap.size W (F W) ∧ W.heap.size < (F W).heap.size) ∧ ∀ (W : World) (i : Nat) (c : UInt8), s.data.toList[i]? = some c → (F W).cell? ⟨W.heap.size, i, none⟩ = some (.int .u8 (c.toNat : Int)) := by
  refine ⟨fun W => Lib.bytesWorld W 5 s, fun W => grownCap W s.size 0 5, fun W => print_bytes 9 22 5 Tryd.underlying9 Tryd.underlying22 Tryd.underlying5 s W, fun W => ⟨bytes_below (Below.refl _ _) (Nat.le_refl _) _ s, by rw [Lib.bytesWorld_size]; omega⟩, fun W i c hc => ?_⟩
  obtain ⟨hi, e⟩ := List.getElem?_eq_some_iff.1 hc
  have h2 : i < s.size := by rw [← size_list]; exact hi
  show (Lib.bytesWorld W 5 s).cell? _ = _
  rw [Lib.bytesWorld_cell W 5 s i h2, List.getD_eq_getElem?_getD, hc]; rfl
theorem str_cells (l : List UInt8) : Lib.strCells ⟨l.toArray⟩ = Lib.byteCells l := rfl
theorem byte_cells_one (c : UInt8) : [Value.int .u8 (c.toNat : Int)] = Lib.byteCells [c] := rfl
theorem ba_quote (l : List UInt8) : (⟨#[34]⟩ : ByteArray) ++ ⟨l.toArray⟩ ++ ⟨#[34]⟩ = ⟨(34 :: (l ++ [34])).toArray⟩ := by
  apply ByteArray.ext
  rw [ByteArray.data_append, ByteArray.data_append]
  simp
set_option maxRecDepth 100000 in
set_option maxHeartbeats 4000000 in
theorem quoted_any (s : ByteArray) (w : World) (hs : s.size ≤ 1000) : Calls Tryd.prog 24 #[.string s] w fun e w' => e = .returned (.string ⟨(quoteL s.data.toList).toArray⟩) ∧ Below w.heap.size w w' := by
  obtain ⟨F, g, hconv, hFB, hFC⟩ := conv_bytes s
  obtain ⟨L, hL⟩ : ∃ L, L = s.data.toList := ⟨_, rfl⟩
  obtain ⟨n, hn⟩ : ∃ n, n = s.size := ⟨_, rfl⟩
  have hLn : L.length = n := by rw [hL, hn]; exact size_list s
  obtain ⟨wb, hwb⟩ : ∃ wb, wb = w.alloc (.cells #[.pointer none, .slice none 0 0] 71) := ⟨_, rfl⟩
  have hwbs : wb.heap.size = w.heap.size + 1 := by rw [hwb]; simp
  have hwbh : wb.heap[w.heap.size]? = some (.cells #[.pointer none, .slice none 0 0] 71 (0, 0)) := by rw [hwb]; exact heap_alloc_new _ _
  obtain ⟨wz, hwz⟩ : ∃ wz, wz = F wb := ⟨_, rfl⟩
  have hz1 := (hFB wb).1
  have hz2 := (hFB wb).2
  rw [← hwz] at hz1 hz2
  have HB0 := Aside0.mk (show Below w.heap.size w wz from (show Below w.heap.size w wb by rw [hwb]; exact below_alloc (Below.refl _ _) _).trans (hz1.mono (by omega)))
  have HBL : Aside0 (Bld wz.heap.size w.heap.size (Lib.byteCells []) wz) := ⟨.inl ⟨by omega, Nat.le_refl _, _, (hz1.block _ (blk_lt hwbh)).trans hwbh, own_nil _ _ _ _⟩⟩
  have HC : Aside0 (∀ (i : Nat) (c : UInt8), L[i]? = some c → wz.cell? ⟨w.heap.size + 1, i, none⟩ = some (.int .u8 (c.toNat : Int))) := ⟨fun i c h => by
    have := hFC wb i c (by rw [← hL]; exact h)
    rwa [hwbs, ← hwz] at this⟩
  have HR : Aside0 (w.heap.size + 1 < wz.heap.size) := ⟨by omega⟩
  have HLN := Aside0.mk hLn
  have hn1 : n ≤ 1000 := by omega
  rw [← hL]
  rw [← hn] at hconv
  have HWZ := Aside0.mk hwz
  have HWB := Aside0.mk hwb
  have CE := Aside0.mk escaped_any
  have CB := Aside0.mk byte_any
  have CS := Aside0.mk string_any
  clear hFB hFC hL hn hLn hwb hwbs hwbh hz1 hz2 hwz hs
  go_enter Tryd.func24, Tryd.ntmps24
  go_wp2_with fail
  rw [← HWB.out, ← HWZ.out]
  go_loopw [9] (fun x wr => ∃ k : Nat, k ≤ n ∧ x = .int .i64 k ∧ Aside0 (Bld wz.heap.size w.heap.size (Lib.byteCells (qL (L.take k))) wr) ∧ Aside0 (Kp wz.heap.size w.heap.size wz wr)) (fun x _ => n - (intOf x).toNat)
  case atStart => exact ⟨0, by omega, by first | rfl | go_num, HBL, ⟨Kp.refl _ _ _⟩⟩
  case round =>
    obtain ⟨wr2, rfl⟩ : ∃ x, x = wr := ⟨wr, rfl⟩
    obtain ⟨k, hk, rfl, HB, HK⟩ := hrel
    have hql := qL_len (L.take k)
    have htl : (L.take k).length ≤ k := List.length_take_le _ _
    have hcl : (Lib.byteCells (qL (L.take k))).length ≤ 6000 := by rw [Lib.byteCells_length]; omega
    by_cases hlt : k < n
    · obtain ⟨c, hc⟩ : ∃ c, L[k]? = some c := ⟨L[k]'(by rw [HLN.out]; exact hlt), List.getElem?_eq_getElem _⟩
      have HST := Aside0.mk (qL_step hc)
      have hcell : wr2.cell? ⟨w.heap.size + 1, k, none⟩ = some (.int .u8 (c.toNat : Int)) := (World.cell?_of_block (HK.out.2 (w.heap.size + 1) HR.out (by omega))).trans (HC.out k c hc)
      have hk2 : (0 : Int) ≤ (k : Int) := by omega
      have hk3 : (k : Int) < (n : Int) := by omega
      obtain ⟨x, hx⟩ : ∃ x, x = c.toNat := ⟨_, rfl⟩
      have HX := Aside0.mk hx
      rw [← hx] at hcell
      have hcase : x < 32 ∨ (32 ≤ x ∧ x = 127) ∨ (32 ≤ x ∧ x = 34) ∨ (32 ≤ x ∧ x = 92) ∨ (32 ≤ x ∧ ¬ x = 127 ∧ ¬ x = 34 ∧ ¬ x = 92) := by omega
      clear hc hx hql htl
      rcases hcase with h | ⟨_, h⟩ | ⟨_, h⟩ | ⟨_, h⟩ | ⟨h, h1, h2, h3⟩
      · have hm : mustB x = true := by unfold mustB; simp; omega
        have HQ : Aside0 (Lib.byteCells (qL (L.take (k + 1))) = Lib.byteCells (qL (L.take k)) ++ Lib.strCells ⟨(escL x).toArray⟩) := ⟨by
          rw [HST.out, Lib.byteCells_append, str_cells]
          unfold qByte
          rw [← HX.out, if_pos hm]⟩
        have CEK := Aside0.mk (fun W => CE.out x W hm)
        have hel : (⟨(escL x).toArray⟩ : ByteArray).size ≤ 6 := by have := escL_len x; simpa [ByteArray.size] using this
        have CSK := Aside0.mk (fun W (h : Bld wz.heap.size w.heap.size (Lib.byteCells (qL (L.take k))) W) => CS.out wz.heap.size w.heap.size (Lib.byteCells (qL (L.take k))) ⟨(escL x).toArray⟩ W h (by omega))
        obtain ⟨q, hq⟩ : ∃ q : ByteArray, q = ⟨(escL x).toArray⟩ := ⟨_, rfl⟩
        rw [← hq] at CSK HQ hel
        simp only [← hq] at CEK
        have g1 : (x : Int) < 32 := by omega
        clear hq hm HX HST
        go_wp2_with (first
          | (go_at_call 49; (with_reducible refine (CEK.out _).mono ?_); rintro e w3 ⟨rfl, hb⟩; have HB3 := Aside0.mk (Bld.below HB.out hb); have HK3 := Aside0.mk (HK.out.below HB.out.le hb HB.out.lt); clear hb)
          | (go_at_call 48; (with_reducible refine (CSK.out _ HB3.out).mono ?_); rintro e w4 ⟨rfl, hb, hk4⟩; have HB4 := Aside0.mk hb; have HK4 := Aside0.mk (HK3.out.trans hk4); clear hb hk4))
        go_roundw
        case rel => exact ⟨k + 1, by omega, by go_num, ⟨by rw [HQ.out]; exact .inr HB4.out⟩, HK4⟩
        case measure => simp [intOf]; omega
      · subst h
        have hcell : wr2.cell? ⟨w.heap.size + 1, k, none⟩ = some (.int .u8 127) := hcell
        have hm : mustB 127 = true := rfl
        have HQ : Aside0 (Lib.byteCells (qL (L.take (k + 1))) = Lib.byteCells (qL (L.take k)) ++ Lib.strCells ⟨(escL 127).toArray⟩) := ⟨by
          rw [HST.out, Lib.byteCells_append, str_cells]
          unfold qByte
          rw [← HX.out]; rfl⟩
        have CEK : Aside0 (∀ W, Calls Tryd.prog 49 #[.int .u8 127] W fun e w' => e = .returned (.string ⟨(escL 127).toArray⟩) ∧ Below W.heap.size W w') := ⟨fun W => CE.out 127 W hm⟩
        have hel : (⟨(escL 127).toArray⟩ : ByteArray).size ≤ 6 := by have := escL_len 127; simpa [ByteArray.size] using this
        have CSK := Aside0.mk (fun W (h : Bld wz.heap.size w.heap.size (Lib.byteCells (qL (L.take k))) W) => CS.out wz.heap.size w.heap.size (Lib.byteCells (qL (L.take k))) ⟨(escL 127).toArray⟩ W h (by omega))
        obtain ⟨q, hq⟩ : ∃ q : ByteArray, q = ⟨(escL 127).toArray⟩ := ⟨_, rfl⟩
        rw [← hq] at CSK HQ hel
        simp only [← hq] at CEK
        clear hq hm HX HST
        go_wp2_with (first
          | (go_at_call 49; (with_reducible refine (CEK.out _).mono ?_); rintro e w3 ⟨rfl, hb⟩; have HB3 := Aside0.mk (Bld.below HB.out hb); have HK3 := Aside0.mk (HK.out.below HB.out.le hb HB.out.lt); clear hb)
          | (go_at_call 48; (with_reducible refine (CSK.out _ HB3.out).mono ?_); rintro e w4 ⟨rfl, hb, hk4⟩; have HB4 := Aside0.mk hb; have HK4 := Aside0.mk (HK3.out.trans hk4); clear hb hk4))
        go_roundw
        case rel => exact ⟨k + 1, by omega, by go_num, ⟨by rw [HQ.out]; exact .inr HB4.out⟩, HK4⟩
        case measure => simp [intOf]; omega
      · subst h
        have hcell : wr2.cell? ⟨w.heap.size + 1, k, none⟩ = some (.int .u8 34) := hcell
        have hm : mustB 34 = true := rfl
        have HQ : Aside0 (Lib.byteCells (qL (L.take (k + 1))) = Lib.byteCells (qL (L.take k)) ++ Lib.strCells ⟨(escL 34).toArray⟩) := ⟨by
          rw [HST.out, Lib.byteCells_append, str_cells]
          unfold qByte
          rw [← HX.out]; rfl⟩
        have CEK : Aside0 (∀ W, Calls Tryd.prog 49 #[.int .u8 34] W fun e w' => e = .returned (.string ⟨(escL 34).toArray⟩) ∧ Below W.heap.size W w') := ⟨fun W => CE.out 34 W hm⟩
        have hel : (⟨(escL 34).toArray⟩ : ByteArray).size ≤ 6 := by have := escL_len 34; simpa [ByteArray.size] using this
        have CSK := Aside0.mk (fun W (h : Bld wz.heap.size w.heap.size (Lib.byteCells (qL (L.take k))) W) => CS.out wz.heap.size w.heap.size (Lib.byteCells (qL (L.take k))) ⟨(escL 34).toArray⟩ W h (by omega))
        obtain ⟨q, hq⟩ : ∃ q : ByteArray, q = ⟨(escL 34).toArray⟩ := ⟨_, rfl⟩
        rw [← hq] at CSK HQ hel
        simp only [← hq] at CEK
        clear hq hm HX HST
        go_wp2_with (first
          | (go_at_call 49; (with_reducible refine (CEK.out _).mono ?_); rintro e w3 ⟨rfl, hb⟩; have HB3 := Aside0.mk (Bld.below HB.out hb); have HK3 := Aside0.mk (HK.out.below HB.out.le hb HB.out.lt); clear hb)
          | (go_at_call 48; (with_reducible refine (CSK.out _ HB3.out).mono ?_); rintro e w4 ⟨rfl, hb, hk4⟩; have HB4 := Aside0.mk hb; have HK4 := Aside0.mk (HK3.out.trans hk4); clear hb hk4))
        go_roundw
        case rel => exact ⟨k + 1, by omega, by go_num, ⟨by rw [HQ.out]; exact .inr HB4.out⟩, HK4⟩
        case measure => simp [intOf]; omega
      · subst h
        have hcell : wr2.cell? ⟨w.heap.size + 1, k, none⟩ = some (.int .u8 92) := hcell
        have hm : mustB 92 = true := rfl
        have HQ : Aside0 (Lib.byteCells (qL (L.take (k + 1))) = Lib.byteCells (qL (L.take k)) ++ Lib.strCells ⟨(escL 92).toArray⟩) := ⟨by
          rw [HST.out, Lib.byteCells_append, str_cells]
          unfold qByte
          rw [← HX.out]; rfl⟩
        have CEK : Aside0 (∀ W, Calls Tryd.prog 49 #[.int .u8 92] W fun e w' => e = .returned (.string ⟨(escL 92).toArray⟩) ∧ Below W.heap.size W w') := ⟨fun W => CE.out 92 W hm⟩
        have hel : (⟨(escL 92).toArray⟩ : ByteArray).size ≤ 6 := by have := escL_len 92; simpa [ByteArray.size] using this
        have CSK := Aside0.mk (fun W (h : Bld wz.heap.size w.heap.size (Lib.byteCells (qL (L.take k))) W) => CS.out wz.heap.size w.heap.size (Lib.byteCells (qL (L.take k))) ⟨(escL 92).toArray⟩ W h (by omega))
        obtain ⟨q, hq⟩ : ∃ q : ByteArray, q = ⟨(escL 92).toArray⟩ := ⟨_, rfl⟩
        rw [← hq] at CSK HQ hel
        simp only [← hq] at CEK
        clear hq hm HX HST
        go_wp2_with (first
          | (go_at_call 49; (with_reducible refine (CEK.out _).mono ?_); rintro e w3 ⟨rfl, hb⟩; have HB3 := Aside0.mk (Bld.below HB.out hb); have HK3 := Aside0.mk (HK.out.below HB.out.le hb HB.out.lt); clear hb)
          | (go_at_call 48; (with_reducible refine (CSK.out _ HB3.out).mono ?_); rintro e w4 ⟨rfl, hb, hk4⟩; have HB4 := Aside0.mk hb; have HK4 := Aside0.mk (HK3.out.trans hk4); clear hb hk4))
        go_roundw
        case rel => exact ⟨k + 1, by omega, by go_num, ⟨by rw [HQ.out]; exact .inr HB4.out⟩, HK4⟩
        case measure => simp [intOf]; omega
      · have hm : mustB x = false := by unfold mustB; simp; omega
        have HQ : Aside0 (Lib.byteCells (qL (L.take (k + 1))) = Lib.byteCells (qL (L.take k)) ++ [.int .u8 (x : Int)]) := ⟨by
          rw [HST.out, Lib.byteCells_append]
          unfold qByte
          rw [← HX.out, hm, if_neg (by simp), HX.out]; rfl⟩
        have CBK := Aside0.mk (fun W (h : Bld wz.heap.size w.heap.size (Lib.byteCells (qL (L.take k))) W) => CB.out wz.heap.size w.heap.size (Lib.byteCells (qL (L.take k))) (x : Int) W h (by omega))
        have g1 : (32 : Int) ≤ (x : Int) := by omega
        have g2 : ((x : Int) == 127) = false := by rw [beq_eq_false_iff_ne]; omega
        have g3 : ((x : Int) == 34) = false := by rw [beq_eq_false_iff_ne]; omega
        have g4 : ((x : Int) == 92) = false := by rw [beq_eq_false_iff_ne]; omega
        clear hm HX HST h h1 h2 h3
        go_wp2_with (first
          | (go_at_call 50; (with_reducible refine (CBK.out _ HB.out).mono ?_); rintro e w4 ⟨rfl, hb, hk4⟩; have HB4 := Aside0.mk hb; have HK4 := Aside0.mk (HK.out.trans hk4); clear hb hk4))
        go_roundw
        case rel => exact ⟨k + 1, by omega, by go_num, ⟨by rw [HQ.out]; exact .inr HB4.out⟩, HK4⟩
        case measure => simp [intOf]; omega
    · have hkn : k = n := by omega
      subst hkn
      have hLt : L.take k = L := by rw [← HLN.out, List.take_length]
      rw [hLt] at HB hcl
      rw [Lib.byteCells_length] at hcl
      have CT := Tryd.Builder_String_any w.heap.size w.heap.size (qL L) wr2 HB.out.is (Nat.le_trans HB0.out.size (by have := HK.out.1.size; exact this))
      obtain ⟨q, hq⟩ : ∃ q : ByteArray, q = ⟨(qL L).toArray⟩ := ⟨_, rfl⟩
      have hqs : q.size ≤ 6000 := by rw [hq]; simpa [ByteArray.size] using hcl
      rw [← hq] at CT
      have CT := Aside0.mk CT
      have HE : Aside0 ((⟨#[34]⟩ : ByteArray) ++ q ++ ⟨#[34]⟩ = ⟨(quoteL L).toArray⟩) := ⟨by rw [hq]; exact ba_quote (qL L)⟩
      clear hLt hq hql htl hcl HC
      go_wp2_with (first
        | (go_at_call 51; (with_reducible refine CT.out.mono ?_); rintro e w5 ⟨rfl, hb⟩; have HB5 := Aside0.mk ((HB0.out.trans HK.out.1).trans hb); clear hb))
      go_ret
      exact ⟨ret_str HE.out, HB5.out⟩
end Go.Proofs.YtmenjcjpihpjjaaDoor.Tm
