/- The law QueryDeep: brackets, and ^, may stand so deep, and no deeper; what stands behind one another may be as many as there is room for. -/
import Derived.Test.YtbaegfjoionojaaDoorQyN
set_option linter.unusedSimpArgs false
set_option linter.unusedVariables false
namespace Go.Proofs.YtbaegfjoionojaaDoor.Qy
open Go Go.RowKit Go.Proofs.YtbaegfjoionojaaDoor.Tm Go.Proofs.YtbaegfjoionojaaDoorW.PrintWords

def rep (l : List UInt8) (k : Nat) : ByteArray := ⟨((List.replicate k l).flatten).toArray⟩
theorem rep_succ (l : List UInt8) (k : Nat) : rep l (k + 1) = rep l k ++ (⟨l.toArray⟩ : ByteArray) := by
  unfold rep
  apply ByteArray.ext
  rw [ByteArray.data_append]
  apply Array.ext'
  rw [Array.toList_append]
  show (List.replicate (k + 1) l).flatten = (List.replicate k l).flatten ++ l
  rw [List.replicate_succ', List.flatten_append]
  simp
theorem rep_size (l : List UInt8) (k : Nat) : (rep l k).size = k * l.length := by
  unfold rep; rw [ba_size]; simp
def txt (a b : List UInt8) (n : Nat) : ByteArray := rep a n ++ (⟨#[60, 97, 62]⟩ : ByteArray) ++ rep b n
def deepB (a b : List UInt8) (way n : Nat) : Bool :=
  if way < 2 ∧ 5 < n then (readS (txt a b n)).2.2 == 3 && (readS (txt a b n)).2.1 == 5 && (readS (txt a b n)).1.k == 0
  else (readS (txt a b n)).2.2 == 0 && (readS (txt a b n)).2.1 == n * a.length + 3 + n * b.length && (((readS (txt a b n)).1.k == 1) == (way == 0 || n == 0))
theorem deep_0 : ∀ n : Fin 13, deepB [40] [41] 0 n.1 = true := by decide +kernel
theorem deep_1 : ∀ n : Fin 13, deepB [94] [] 1 n.1 = true := by decide +kernel
theorem deep_2 : ∀ n : Fin 13, deepB [] [42] 2 n.1 = true := by decide +kernel
set_option maxRecDepth 100000 in
set_option maxHeartbeats 8000000 in
theorem deep_err0 (n : Nat) (hn : n ≤ 12) (p : Pth) (at' : Nat) (er : Int) (hr : readS (txt [40] [41] n) = (p, at', er)) (h5 : 5 < n) (he : er = 3) (ha : at' = 5) (hk0 : p.k = 0) (w : World) (hT : Tabs w) :
    Calls Tryd.prog 5 #[.int .i64 (n : Int), .int .i64 0] w fun e w' => e = .returned (.bool true) ∧ Below w.heap.size w w' := by
  have HT := Aside0.mk hT
  have g1 : (0 : Int) ≤ (n : Int) := by omega
  have g2 : (n : Int) ≤ 12 := by omega
  have HR := Aside0.mk hr
  have CK := Aside0.mk known_any
  subst he ha
  have g3 : (5 : Int) < (n : Int) := by omega
  clear hr hT
  go_enter Tryd.func5, Tryd.ntmps5
  go_wp2_with fail
  go_loopw [5, 6, 7] (fun x y z wr => ∃ (k : Nat) (sb tb : ByteArray), k ≤ n ∧ x = .string sb ∧ y = .string tb ∧ z = .int .i64 k ∧ sb.size = k * 1 ∧ tb.size = k * 1 ∧ Aside0 (sb = rep [40] k) ∧ Aside0 (tb = rep [41] k) ∧ Aside0 (Below w.heap.size w wr)) (fun _ _ z _ => n - (intOf z).toNat)
  case atStart => exact ⟨0, ⟨#[]⟩, ⟨#[]⟩, by omega, rfl, rfl, rfl, by rfl, by rfl, ⟨rfl⟩, ⟨rfl⟩, ⟨Below.refl _ _⟩⟩
  case round =>
    obtain ⟨wv, rfl⟩ : ∃ x, x = wr := ⟨wr, rfl⟩
    obtain ⟨k, sb, tb, hk, rfl, rfl, rfl, hs, ht, HS, HTT, HB⟩ := hrel
    by_cases hkn : k < n
    · have e1 := Aside0.mk (rep_succ [40] k)
      have e2 := Aside0.mk (rep_succ [41] k)
      have b1 : sb.size ≤ 100 := by omega
      have b2 : tb.size ≤ 100 := by omega
      have hs1 := hs
      have ht1 := ht
      clear hs ht
      go_wp2_with fail
      go_roundw
      case rel =>
        refine ⟨k + 1, _, _, by omega, rfl, rfl, by go_num, ?_, ?_, ⟨?_⟩, ⟨?_⟩, ⟨below_alloc (below_alloc HB.out _) _⟩⟩
        · first | (rw [ByteArray.size_append, show (⟨#[40]⟩ : ByteArray).size = 1 from rfl]; omega) | omega
        · first | (rw [ByteArray.size_append, show (⟨#[41]⟩ : ByteArray).size = 1 from rfl]; omega) | omega
        · rw [e1.out, ← HS.out]
        · rw [e2.out, ← HTT.out]
      case measure => simp [intOf]; omega
    · obtain rfl : k = n := by omega
      have hX : sb ++ (⟨#[60, 97, 62]⟩ : ByteArray) ++ tb = txt [40] [41] k := by rw [HS.out, HTT.out]; rfl
      have b1 : sb.size ≤ 100 := by omega
      have b2 : tb.size ≤ 100 := by omega

      have CR : Aside0 (∀ W, Tabs W → Calls Tryd.prog 26 #[.string (sb ++ (⟨#[60, 97, 62]⟩ : ByteArray) ++ tb)] W (PostR W (p, 5, 3))) := ⟨fun W h => by
        rw [hX, ← HR.out]
        exact read_any _ W (by rw [← hX, ByteArray.size_append, ByteArray.size_append]; show sb.size + 3 + tb.size ≤ 50000; omega) h⟩
      clear hX hkn
      go_upto_region 10 with (go_at_call 26; (with_reducible refine (CR.out _ (HT.out.below HB.out)).mono ?_); rintro e w1 ⟨k', t', A', n', c', B', m', d', rfl, hb, hp⟩; have HB1 := Aside0.mk (below_then HB.out HB.out.size hb); have HPA := Aside0.mk hp; have HT1 := Aside0.mk ((HT.out.below HB.out).below hb); clear hb hp)
      have hkk : p.k = k' := by
        obtain ⟨k9, t9, ts9, ks9⟩ := p
        obtain ⟨A1, c1, B1, d1, e0, -⟩ := path_cells HPA.out
        simp only [List.cons.injEq, Value.int.injEq] at e0
        exact e0.1.2.symm
      rw [hk0] at hkk
      subst hkk
      clear hk0
      obtain ⟨w2, hw2, HB2, HN2⟩ := boxP w1 0 t' A' n' c' B' m' d'
      rw [← hw2]
      have HB02 := Aside0.mk (below_then HB1.out HB1.out.size HB2.out)
      have HT2 := Aside0.mk (HT1.out.below HB2.out)
      have q0 := blk_cell HN2.out 0
      simp at q0
      clear hw2
      go_wp2_with (go_at_call 28; (with_reducible refine (CK.out _ HT2.out).mono ?_); rintro e w3 ⟨rfl, hb⟩; have HB3 := Aside0.mk (below_then HB02.out HB02.out.size hb); clear hb)
      go_ret
      exact ⟨rfl, HB3.out⟩
set_option maxRecDepth 100000 in
set_option maxHeartbeats 8000000 in
theorem deep_err1 (n : Nat) (hn : n ≤ 12) (p : Pth) (at' : Nat) (er : Int) (hr : readS (txt [94] [] n) = (p, at', er)) (h5 : 5 < n) (he : er = 3) (ha : at' = 5) (hk0 : p.k = 0) (w : World) (hT : Tabs w) :
    Calls Tryd.prog 5 #[.int .i64 (n : Int), .int .i64 1] w fun e w' => e = .returned (.bool true) ∧ Below w.heap.size w w' := by
  have HT := Aside0.mk hT
  have g1 : (0 : Int) ≤ (n : Int) := by omega
  have g2 : (n : Int) ≤ 12 := by omega
  have HR := Aside0.mk hr
  have CK := Aside0.mk known_any
  subst he ha
  have g3 : (5 : Int) < (n : Int) := by omega
  clear hr hT
  go_enter Tryd.func5, Tryd.ntmps5
  go_wp2_with fail
  go_loopw [5, 6, 7] (fun x y z wr => ∃ (k : Nat) (sb tb : ByteArray), k ≤ n ∧ x = .string sb ∧ y = .string tb ∧ z = .int .i64 k ∧ sb.size = k * 1 ∧ tb.size = k * 0 ∧ Aside0 (sb = rep [94] k) ∧ Aside0 (tb = rep [] k) ∧ Aside0 (Below w.heap.size w wr)) (fun _ _ z _ => n - (intOf z).toNat)
  case atStart => exact ⟨0, ⟨#[]⟩, ⟨#[]⟩, by omega, rfl, rfl, rfl, by rfl, by rfl, ⟨rfl⟩, ⟨rfl⟩, ⟨Below.refl _ _⟩⟩
  case round =>
    obtain ⟨wv, rfl⟩ : ∃ x, x = wr := ⟨wr, rfl⟩
    obtain ⟨k, sb, tb, hk, rfl, rfl, rfl, hs, ht, HS, HTT, HB⟩ := hrel
    by_cases hkn : k < n
    · have e1 := Aside0.mk (rep_succ [94] k)
      have e2 := Aside0.mk (rep_succ [] k)
      have b1 : sb.size ≤ 100 := by omega
      have b2 : tb.size ≤ 100 := by omega
      have hs1 := hs
      have ht1 := ht
      clear hs ht
      go_wp2_with fail
      go_roundw
      case rel =>
        refine ⟨k + 1, _, _, by omega, rfl, rfl, by go_num, ?_, ?_, ⟨?_⟩, ⟨?_⟩, ⟨below_alloc (below_alloc HB.out _) _⟩⟩
        · first | (rw [ByteArray.size_append, show (⟨#[94]⟩ : ByteArray).size = 1 from rfl]; omega) | omega
        · first | (rw [ByteArray.size_append, show (⟨#[]⟩ : ByteArray).size = 0 from rfl]; omega) | omega
        · rw [e1.out, ← HS.out]
        · rw [e2.out, ← HTT.out]
      case measure => simp [intOf]; omega
    · obtain rfl : k = n := by omega
      have hX : sb ++ (⟨#[60, 97, 62]⟩ : ByteArray) ++ tb = txt [94] [] k := by rw [HS.out, HTT.out]; rfl
      have b1 : sb.size ≤ 100 := by omega
      have b2 : tb.size ≤ 100 := by omega

      have CR : Aside0 (∀ W, Tabs W → Calls Tryd.prog 26 #[.string (sb ++ (⟨#[60, 97, 62]⟩ : ByteArray) ++ tb)] W (PostR W (p, 5, 3))) := ⟨fun W h => by
        rw [hX, ← HR.out]
        exact read_any _ W (by rw [← hX, ByteArray.size_append, ByteArray.size_append]; show sb.size + 3 + tb.size ≤ 50000; omega) h⟩
      clear hX hkn
      go_upto_region 10 with (go_at_call 26; (with_reducible refine (CR.out _ (HT.out.below HB.out)).mono ?_); rintro e w1 ⟨k', t', A', n', c', B', m', d', rfl, hb, hp⟩; have HB1 := Aside0.mk (below_then HB.out HB.out.size hb); have HPA := Aside0.mk hp; have HT1 := Aside0.mk ((HT.out.below HB.out).below hb); clear hb hp)
      have hkk : p.k = k' := by
        obtain ⟨k9, t9, ts9, ks9⟩ := p
        obtain ⟨A1, c1, B1, d1, e0, -⟩ := path_cells HPA.out
        simp only [List.cons.injEq, Value.int.injEq] at e0
        exact e0.1.2.symm
      rw [hk0] at hkk
      subst hkk
      clear hk0
      obtain ⟨w2, hw2, HB2, HN2⟩ := boxP w1 0 t' A' n' c' B' m' d'
      rw [← hw2]
      have HB02 := Aside0.mk (below_then HB1.out HB1.out.size HB2.out)
      have HT2 := Aside0.mk (HT1.out.below HB2.out)
      have q0 := blk_cell HN2.out 0
      simp at q0
      clear hw2
      go_wp2_with (go_at_call 28; (with_reducible refine (CK.out _ HT2.out).mono ?_); rintro e w3 ⟨rfl, hb⟩; have HB3 := Aside0.mk (below_then HB02.out HB02.out.size hb); clear hb)
      go_ret
      exact ⟨rfl, HB3.out⟩
set_option maxRecDepth 100000 in
set_option maxHeartbeats 8000000 in
theorem deep_one0 (n : Nat) (hn : n ≤ 12) (p : Pth) (at' : Nat) (er : Int) (hr : readS (txt [40] [41] n) = (p, at', er)) (h5 : n ≤ 5) (he : er = 0) (ha : at' = n * 1 + 3 + n * 1) (hk0 : p.k = 1) (w : World) (hT : Tabs w) :
    Calls Tryd.prog 5 #[.int .i64 (n : Int), .int .i64 0] w fun e w' => e = .returned (.bool true) ∧ Below w.heap.size w w' := by
  have HT := Aside0.mk hT
  have g1 : (0 : Int) ≤ (n : Int) := by omega
  have g2 : (n : Int) ≤ 12 := by omega
  have HR := Aside0.mk hr
  have CK := Aside0.mk known_any
  have g3 : (n : Int) ≤ 5 := by omega
  subst he
  clear hr hT
  go_enter Tryd.func5, Tryd.ntmps5
  go_wp2_with fail
  go_loopw [5, 6, 7] (fun x y z wr => ∃ (k : Nat) (sb tb : ByteArray), k ≤ n ∧ x = .string sb ∧ y = .string tb ∧ z = .int .i64 k ∧ sb.size = k * 1 ∧ tb.size = k * 1 ∧ Aside0 (sb = rep [40] k) ∧ Aside0 (tb = rep [41] k) ∧ Aside0 (Below w.heap.size w wr)) (fun _ _ z _ => n - (intOf z).toNat)
  case atStart => exact ⟨0, ⟨#[]⟩, ⟨#[]⟩, by omega, rfl, rfl, rfl, by rfl, by rfl, ⟨rfl⟩, ⟨rfl⟩, ⟨Below.refl _ _⟩⟩
  case round =>
    obtain ⟨wv, rfl⟩ : ∃ x, x = wr := ⟨wr, rfl⟩
    obtain ⟨k, sb, tb, hk, rfl, rfl, rfl, hs, ht, HS, HTT, HB⟩ := hrel
    by_cases hkn : k < n
    · have e1 := Aside0.mk (rep_succ [40] k)
      have e2 := Aside0.mk (rep_succ [41] k)
      have b1 : sb.size ≤ 100 := by omega
      have b2 : tb.size ≤ 100 := by omega
      have hs1 := hs
      have ht1 := ht
      clear hs ht
      go_wp2_with fail
      go_roundw
      case rel =>
        refine ⟨k + 1, _, _, by omega, rfl, rfl, by go_num, ?_, ?_, ⟨?_⟩, ⟨?_⟩, ⟨below_alloc (below_alloc HB.out _) _⟩⟩
        · first | (rw [ByteArray.size_append, show (⟨#[40]⟩ : ByteArray).size = 1 from rfl]; omega) | omega
        · first | (rw [ByteArray.size_append, show (⟨#[41]⟩ : ByteArray).size = 1 from rfl]; omega) | omega
        · rw [e1.out, ← HS.out]
        · rw [e2.out, ← HTT.out]
      case measure => simp [intOf]; omega
    · obtain rfl : k = n := by omega
      have hX : sb ++ (⟨#[60, 97, 62]⟩ : ByteArray) ++ tb = txt [40] [41] k := by rw [HS.out, HTT.out]; rfl
      have b1 : sb.size ≤ 100 := by omega
      have b2 : tb.size ≤ 100 := by omega
      have hat : at' = sb.size + 3 + tb.size := by rw [hs, ht]; exact ha
      subst hat
      have CR : Aside0 (∀ W, Tabs W → Calls Tryd.prog 26 #[.string (sb ++ (⟨#[60, 97, 62]⟩ : ByteArray) ++ tb)] W (PostR W (p, sb.size + 3 + tb.size, 0))) := ⟨fun W h => by
        rw [hX, ← HR.out]
        exact read_any _ W (by rw [← hX, ByteArray.size_append, ByteArray.size_append]; show sb.size + 3 + tb.size ≤ 50000; omega) h⟩
      clear hX hkn
      go_upto_region 10 with (go_at_call 26; (with_reducible refine (CR.out _ (HT.out.below HB.out)).mono ?_); rintro e w1 ⟨k', t', A', n', c', B', m', d', rfl, hb, hp⟩; have HB1 := Aside0.mk (below_then HB.out HB.out.size hb); have HPA := Aside0.mk hp; have HT1 := Aside0.mk ((HT.out.below HB.out).below hb); clear hb hp)
      have hkk : p.k = k' := by
        obtain ⟨k9, t9, ts9, ks9⟩ := p
        obtain ⟨A1, c1, B1, d1, e0, -⟩ := path_cells HPA.out
        simp only [List.cons.injEq, Value.int.injEq] at e0
        exact e0.1.2.symm
      rw [hk0] at hkk
      subst hkk
      clear hk0
      obtain ⟨w2, hw2, HB2, HN2⟩ := boxP w1 1 t' A' n' c' B' m' d'
      rw [← hw2]
      have HB02 := Aside0.mk (below_then HB1.out HB1.out.size HB2.out)
      have HT2 := Aside0.mk (HT1.out.below HB2.out)
      have q0 := blk_cell HN2.out 0
      simp at q0
      clear hw2
      go_wp2_with (go_at_call 28; (with_reducible refine (CK.out _ HT2.out).mono ?_); rintro e w3 ⟨rfl, hb⟩; have HB3 := Aside0.mk (below_then HB02.out HB02.out.size hb); clear hb)
      go_ret
      exact ⟨rfl, HB3.out⟩
set_option maxRecDepth 100000 in
set_option maxHeartbeats 8000000 in
theorem deep_one1 (n : Nat) (hn : n ≤ 12) (p : Pth) (at' : Nat) (er : Int) (hr : readS (txt [94] [] n) = (p, at', er)) (h5 : n ≤ 5) (h0 : n = 0) (he : er = 0) (ha : at' = n * 1 + 3 + n * 0) (hk0 : p.k = 1) (w : World) (hT : Tabs w) :
    Calls Tryd.prog 5 #[.int .i64 (n : Int), .int .i64 1] w fun e w' => e = .returned (.bool true) ∧ Below w.heap.size w w' := by
  have HT := Aside0.mk hT
  have g1 : (0 : Int) ≤ (n : Int) := by omega
  have g2 : (n : Int) ≤ 12 := by omega
  have HR := Aside0.mk hr
  have CK := Aside0.mk known_any
  have g3 : (n : Int) ≤ 5 := by omega
  subst he
  have g4 : ((n : Int) == 0) = true := by rw [beq_iff_eq]; omega
  clear hr hT
  go_enter Tryd.func5, Tryd.ntmps5
  go_wp2_with fail
  go_loopw [5, 6, 7] (fun x y z wr => ∃ (k : Nat) (sb tb : ByteArray), k ≤ n ∧ x = .string sb ∧ y = .string tb ∧ z = .int .i64 k ∧ sb.size = k * 1 ∧ tb.size = k * 0 ∧ Aside0 (sb = rep [94] k) ∧ Aside0 (tb = rep [] k) ∧ Aside0 (Below w.heap.size w wr)) (fun _ _ z _ => n - (intOf z).toNat)
  case atStart => exact ⟨0, ⟨#[]⟩, ⟨#[]⟩, by omega, rfl, rfl, rfl, by rfl, by rfl, ⟨rfl⟩, ⟨rfl⟩, ⟨Below.refl _ _⟩⟩
  case round =>
    obtain ⟨wv, rfl⟩ : ∃ x, x = wr := ⟨wr, rfl⟩
    obtain ⟨k, sb, tb, hk, rfl, rfl, rfl, hs, ht, HS, HTT, HB⟩ := hrel
    by_cases hkn : k < n
    · exact absurd hkn (by omega)
    · obtain rfl : k = n := by omega
      have hX : sb ++ (⟨#[60, 97, 62]⟩ : ByteArray) ++ tb = txt [94] [] k := by rw [HS.out, HTT.out]; rfl
      have b1 : sb.size ≤ 100 := by omega
      have b2 : tb.size ≤ 100 := by omega
      have hat : at' = sb.size + 3 + tb.size := by rw [hs, ht]; exact ha
      subst hat
      have CR : Aside0 (∀ W, Tabs W → Calls Tryd.prog 26 #[.string (sb ++ (⟨#[60, 97, 62]⟩ : ByteArray) ++ tb)] W (PostR W (p, sb.size + 3 + tb.size, 0))) := ⟨fun W h => by
        rw [hX, ← HR.out]
        exact read_any _ W (by rw [← hX, ByteArray.size_append, ByteArray.size_append]; show sb.size + 3 + tb.size ≤ 50000; omega) h⟩
      clear hX hkn
      go_upto_region 10 with (go_at_call 26; (with_reducible refine (CR.out _ (HT.out.below HB.out)).mono ?_); rintro e w1 ⟨k', t', A', n', c', B', m', d', rfl, hb, hp⟩; have HB1 := Aside0.mk (below_then HB.out HB.out.size hb); have HPA := Aside0.mk hp; have HT1 := Aside0.mk ((HT.out.below HB.out).below hb); clear hb hp)
      have hkk : p.k = k' := by
        obtain ⟨k9, t9, ts9, ks9⟩ := p
        obtain ⟨A1, c1, B1, d1, e0, -⟩ := path_cells HPA.out
        simp only [List.cons.injEq, Value.int.injEq] at e0
        exact e0.1.2.symm
      rw [hk0] at hkk
      subst hkk
      clear hk0
      obtain ⟨w2, hw2, HB2, HN2⟩ := boxP w1 1 t' A' n' c' B' m' d'
      rw [← hw2]
      have HB02 := Aside0.mk (below_then HB1.out HB1.out.size HB2.out)
      have HT2 := Aside0.mk (HT1.out.below HB2.out)
      have q0 := blk_cell HN2.out 0
      simp at q0
      clear hw2
      go_wp2_with (go_at_call 28; (with_reducible refine (CK.out _ HT2.out).mono ?_); rintro e w3 ⟨rfl, hb⟩; have HB3 := Aside0.mk (below_then HB02.out HB02.out.size hb); clear hb)
      go_ret
      exact ⟨rfl, HB3.out⟩
set_option maxRecDepth 100000 in
set_option maxHeartbeats 8000000 in
theorem deep_two1 (n : Nat) (hn : n ≤ 12) (p : Pth) (at' : Nat) (er : Int) (hr : readS (txt [94] [] n) = (p, at', er)) (h5 : n ≤ 5) (h0 : n ≠ 0) (he : er = 0) (ha : at' = n * 1 + 3 + n * 0) (hk0 : p.k ≠ 1) (w : World) (hT : Tabs w) :
    Calls Tryd.prog 5 #[.int .i64 (n : Int), .int .i64 1] w fun e w' => e = .returned (.bool true) ∧ Below w.heap.size w w' := by
  have HT := Aside0.mk hT
  have g1 : (0 : Int) ≤ (n : Int) := by omega
  have g2 : (n : Int) ≤ 12 := by omega
  have HR := Aside0.mk hr
  have CK := Aside0.mk known_any
  have g3 : (n : Int) ≤ 5 := by omega
  subst he
  have g4 : ((n : Int) == 0) = false := by rw [beq_eq_false_iff_ne]; omega
  clear hr hT
  go_enter Tryd.func5, Tryd.ntmps5
  go_wp2_with fail
  go_loopw [5, 6, 7] (fun x y z wr => ∃ (k : Nat) (sb tb : ByteArray), k ≤ n ∧ x = .string sb ∧ y = .string tb ∧ z = .int .i64 k ∧ sb.size = k * 1 ∧ tb.size = k * 0 ∧ Aside0 (sb = rep [94] k) ∧ Aside0 (tb = rep [] k) ∧ Aside0 (Below w.heap.size w wr)) (fun _ _ z _ => n - (intOf z).toNat)
  case atStart => exact ⟨0, ⟨#[]⟩, ⟨#[]⟩, by omega, rfl, rfl, rfl, by rfl, by rfl, ⟨rfl⟩, ⟨rfl⟩, ⟨Below.refl _ _⟩⟩
  case round =>
    obtain ⟨wv, rfl⟩ : ∃ x, x = wr := ⟨wr, rfl⟩
    obtain ⟨k, sb, tb, hk, rfl, rfl, rfl, hs, ht, HS, HTT, HB⟩ := hrel
    by_cases hkn : k < n
    · have e1 := Aside0.mk (rep_succ [94] k)
      have e2 := Aside0.mk (rep_succ [] k)
      have b1 : sb.size ≤ 100 := by omega
      have b2 : tb.size ≤ 100 := by omega
      have hs1 := hs
      have ht1 := ht
      clear hs ht
      go_wp2_with fail
      go_roundw
      case rel =>
        refine ⟨k + 1, _, _, by omega, rfl, rfl, by go_num, ?_, ?_, ⟨?_⟩, ⟨?_⟩, ⟨below_alloc (below_alloc HB.out _) _⟩⟩
        · first | (rw [ByteArray.size_append, show (⟨#[94]⟩ : ByteArray).size = 1 from rfl]; omega) | omega
        · first | (rw [ByteArray.size_append, show (⟨#[]⟩ : ByteArray).size = 0 from rfl]; omega) | omega
        · rw [e1.out, ← HS.out]
        · rw [e2.out, ← HTT.out]
      case measure => simp [intOf]; omega
    · obtain rfl : k = n := by omega
      have hX : sb ++ (⟨#[60, 97, 62]⟩ : ByteArray) ++ tb = txt [94] [] k := by rw [HS.out, HTT.out]; rfl
      have b1 : sb.size ≤ 100 := by omega
      have b2 : tb.size ≤ 100 := by omega
      have hat : at' = sb.size + 3 + tb.size := by rw [hs, ht]; exact ha
      subst hat
      have CR : Aside0 (∀ W, Tabs W → Calls Tryd.prog 26 #[.string (sb ++ (⟨#[60, 97, 62]⟩ : ByteArray) ++ tb)] W (PostR W (p, sb.size + 3 + tb.size, 0))) := ⟨fun W h => by
        rw [hX, ← HR.out]
        exact read_any _ W (by rw [← hX, ByteArray.size_append, ByteArray.size_append]; show sb.size + 3 + tb.size ≤ 50000; omega) h⟩
      clear hX hkn
      go_upto_region 10 with (go_at_call 26; (with_reducible refine (CR.out _ (HT.out.below HB.out)).mono ?_); rintro e w1 ⟨k', t', A', n', c', B', m', d', rfl, hb, hp⟩; have HB1 := Aside0.mk (below_then HB.out HB.out.size hb); have HPA := Aside0.mk hp; have HT1 := Aside0.mk ((HT.out.below HB.out).below hb); clear hb hp)
      have hkk : p.k = k' := by
        obtain ⟨k9, t9, ts9, ks9⟩ := p
        obtain ⟨A1, c1, B1, d1, e0, -⟩ := path_cells HPA.out
        simp only [List.cons.injEq, Value.int.injEq] at e0
        exact e0.1.2.symm
      have hk1 : (k' == 1) = false := by rw [beq_eq_false_iff_ne, ← hkk]; exact hk0
      clear hk0 hkk
      obtain ⟨w2, hw2, HB2, HN2⟩ := boxP w1 k' t' A' n' c' B' m' d'
      rw [← hw2]
      have HB02 := Aside0.mk (below_then HB1.out HB1.out.size HB2.out)
      have HT2 := Aside0.mk (HT1.out.below HB2.out)
      have q0 := blk_cell HN2.out 0
      simp at q0
      clear hw2
      go_wp2_with (go_at_call 28; (with_reducible refine (CK.out _ HT2.out).mono ?_); rintro e w3 ⟨rfl, hb⟩; have HB3 := Aside0.mk (below_then HB02.out HB02.out.size hb); clear hb)
      go_ret
      exact ⟨rfl, HB3.out⟩
set_option maxRecDepth 100000 in
set_option maxHeartbeats 8000000 in
theorem deep_one2 (n : Nat) (hn : n ≤ 12) (p : Pth) (at' : Nat) (er : Int) (hr : readS (txt [] [42] n) = (p, at', er)) (h0 : n = 0) (he : er = 0) (ha : at' = n * 0 + 3 + n * 1) (hk0 : p.k = 1) (w : World) (hT : Tabs w) :
    Calls Tryd.prog 5 #[.int .i64 (n : Int), .int .i64 2] w fun e w' => e = .returned (.bool true) ∧ Below w.heap.size w w' := by
  have HT := Aside0.mk hT
  have g1 : (0 : Int) ≤ (n : Int) := by omega
  have g2 : (n : Int) ≤ 12 := by omega
  have HR := Aside0.mk hr
  have CK := Aside0.mk known_any
  subst he
  have g4 : ((n : Int) == 0) = true := by rw [beq_iff_eq]; omega
  clear hr hT
  go_enter Tryd.func5, Tryd.ntmps5
  go_wp2_with fail
  go_loopw [5, 6, 7] (fun x y z wr => ∃ (k : Nat) (sb tb : ByteArray), k ≤ n ∧ x = .string sb ∧ y = .string tb ∧ z = .int .i64 k ∧ sb.size = k * 0 ∧ tb.size = k * 1 ∧ Aside0 (sb = rep [] k) ∧ Aside0 (tb = rep [42] k) ∧ Aside0 (Below w.heap.size w wr)) (fun _ _ z _ => n - (intOf z).toNat)
  case atStart => exact ⟨0, ⟨#[]⟩, ⟨#[]⟩, by omega, rfl, rfl, rfl, by rfl, by rfl, ⟨rfl⟩, ⟨rfl⟩, ⟨Below.refl _ _⟩⟩
  case round =>
    obtain ⟨wv, rfl⟩ : ∃ x, x = wr := ⟨wr, rfl⟩
    obtain ⟨k, sb, tb, hk, rfl, rfl, rfl, hs, ht, HS, HTT, HB⟩ := hrel
    by_cases hkn : k < n
    · exact absurd hkn (by omega)
    · obtain rfl : k = n := by omega
      have hX : sb ++ (⟨#[60, 97, 62]⟩ : ByteArray) ++ tb = txt [] [42] k := by rw [HS.out, HTT.out]; rfl
      have b1 : sb.size ≤ 100 := by omega
      have b2 : tb.size ≤ 100 := by omega
      have hat : at' = sb.size + 3 + tb.size := by rw [hs, ht]; exact ha
      subst hat
      have CR : Aside0 (∀ W, Tabs W → Calls Tryd.prog 26 #[.string (sb ++ (⟨#[60, 97, 62]⟩ : ByteArray) ++ tb)] W (PostR W (p, sb.size + 3 + tb.size, 0))) := ⟨fun W h => by
        rw [hX, ← HR.out]
        exact read_any _ W (by rw [← hX, ByteArray.size_append, ByteArray.size_append]; show sb.size + 3 + tb.size ≤ 50000; omega) h⟩
      clear hX hkn
      go_upto_region 10 with (go_at_call 26; (with_reducible refine (CR.out _ (HT.out.below HB.out)).mono ?_); rintro e w1 ⟨k', t', A', n', c', B', m', d', rfl, hb, hp⟩; have HB1 := Aside0.mk (below_then HB.out HB.out.size hb); have HPA := Aside0.mk hp; have HT1 := Aside0.mk ((HT.out.below HB.out).below hb); clear hb hp)
      have hkk : p.k = k' := by
        obtain ⟨k9, t9, ts9, ks9⟩ := p
        obtain ⟨A1, c1, B1, d1, e0, -⟩ := path_cells HPA.out
        simp only [List.cons.injEq, Value.int.injEq] at e0
        exact e0.1.2.symm
      rw [hk0] at hkk
      subst hkk
      clear hk0
      obtain ⟨w2, hw2, HB2, HN2⟩ := boxP w1 1 t' A' n' c' B' m' d'
      rw [← hw2]
      have HB02 := Aside0.mk (below_then HB1.out HB1.out.size HB2.out)
      have HT2 := Aside0.mk (HT1.out.below HB2.out)
      have q0 := blk_cell HN2.out 0
      simp at q0
      clear hw2
      go_wp2_with (go_at_call 28; (with_reducible refine (CK.out _ HT2.out).mono ?_); rintro e w3 ⟨rfl, hb⟩; have HB3 := Aside0.mk (below_then HB02.out HB02.out.size hb); clear hb)
      go_ret
      exact ⟨rfl, HB3.out⟩
set_option maxRecDepth 100000 in
set_option maxHeartbeats 8000000 in
theorem deep_two2 (n : Nat) (hn : n ≤ 12) (p : Pth) (at' : Nat) (er : Int) (hr : readS (txt [] [42] n) = (p, at', er)) (h0 : n ≠ 0) (he : er = 0) (ha : at' = n * 0 + 3 + n * 1) (hk0 : p.k ≠ 1) (w : World) (hT : Tabs w) :
    Calls Tryd.prog 5 #[.int .i64 (n : Int), .int .i64 2] w fun e w' => e = .returned (.bool true) ∧ Below w.heap.size w w' := by
  have HT := Aside0.mk hT
  have g1 : (0 : Int) ≤ (n : Int) := by omega
  have g2 : (n : Int) ≤ 12 := by omega
  have HR := Aside0.mk hr
  have CK := Aside0.mk known_any
  subst he
  have g4 : ((n : Int) == 0) = false := by rw [beq_eq_false_iff_ne]; omega
  clear hr hT
  go_enter Tryd.func5, Tryd.ntmps5
  go_wp2_with fail
  go_loopw [5, 6, 7] (fun x y z wr => ∃ (k : Nat) (sb tb : ByteArray), k ≤ n ∧ x = .string sb ∧ y = .string tb ∧ z = .int .i64 k ∧ sb.size = k * 0 ∧ tb.size = k * 1 ∧ Aside0 (sb = rep [] k) ∧ Aside0 (tb = rep [42] k) ∧ Aside0 (Below w.heap.size w wr)) (fun _ _ z _ => n - (intOf z).toNat)
  case atStart => exact ⟨0, ⟨#[]⟩, ⟨#[]⟩, by omega, rfl, rfl, rfl, by rfl, by rfl, ⟨rfl⟩, ⟨rfl⟩, ⟨Below.refl _ _⟩⟩
  case round =>
    obtain ⟨wv, rfl⟩ : ∃ x, x = wr := ⟨wr, rfl⟩
    obtain ⟨k, sb, tb, hk, rfl, rfl, rfl, hs, ht, HS, HTT, HB⟩ := hrel
    by_cases hkn : k < n
    · have e1 := Aside0.mk (rep_succ [] k)
      have e2 := Aside0.mk (rep_succ [42] k)
      have b1 : sb.size ≤ 100 := by omega
      have b2 : tb.size ≤ 100 := by omega
      have hs1 := hs
      have ht1 := ht
      clear hs ht
      go_wp2_with fail
      go_roundw
      case rel =>
        refine ⟨k + 1, _, _, by omega, rfl, rfl, by go_num, ?_, ?_, ⟨?_⟩, ⟨?_⟩, ⟨below_alloc (below_alloc HB.out _) _⟩⟩
        · first | (rw [ByteArray.size_append, show (⟨#[]⟩ : ByteArray).size = 0 from rfl]; omega) | omega
        · first | (rw [ByteArray.size_append, show (⟨#[42]⟩ : ByteArray).size = 1 from rfl]; omega) | omega
        · rw [e1.out, ← HS.out]
        · rw [e2.out, ← HTT.out]
      case measure => simp [intOf]; omega
    · obtain rfl : k = n := by omega
      have hX : sb ++ (⟨#[60, 97, 62]⟩ : ByteArray) ++ tb = txt [] [42] k := by rw [HS.out, HTT.out]; rfl
      have b1 : sb.size ≤ 100 := by omega
      have b2 : tb.size ≤ 100 := by omega
      have hat : at' = sb.size + 3 + tb.size := by rw [hs, ht]; exact ha
      subst hat
      have CR : Aside0 (∀ W, Tabs W → Calls Tryd.prog 26 #[.string (sb ++ (⟨#[60, 97, 62]⟩ : ByteArray) ++ tb)] W (PostR W (p, sb.size + 3 + tb.size, 0))) := ⟨fun W h => by
        rw [hX, ← HR.out]
        exact read_any _ W (by rw [← hX, ByteArray.size_append, ByteArray.size_append]; show sb.size + 3 + tb.size ≤ 50000; omega) h⟩
      clear hX hkn
      go_upto_region 10 with (go_at_call 26; (with_reducible refine (CR.out _ (HT.out.below HB.out)).mono ?_); rintro e w1 ⟨k', t', A', n', c', B', m', d', rfl, hb, hp⟩; have HB1 := Aside0.mk (below_then HB.out HB.out.size hb); have HPA := Aside0.mk hp; have HT1 := Aside0.mk ((HT.out.below HB.out).below hb); clear hb hp)
      have hkk : p.k = k' := by
        obtain ⟨k9, t9, ts9, ks9⟩ := p
        obtain ⟨A1, c1, B1, d1, e0, -⟩ := path_cells HPA.out
        simp only [List.cons.injEq, Value.int.injEq] at e0
        exact e0.1.2.symm
      have hk1 : (k' == 1) = false := by rw [beq_eq_false_iff_ne, ← hkk]; exact hk0
      clear hk0 hkk
      obtain ⟨w2, hw2, HB2, HN2⟩ := boxP w1 k' t' A' n' c' B' m' d'
      rw [← hw2]
      have HB02 := Aside0.mk (below_then HB1.out HB1.out.size HB2.out)
      have HT2 := Aside0.mk (HT1.out.below HB2.out)
      have q0 := blk_cell HN2.out 0
      simp at q0
      clear hw2
      go_wp2_with (go_at_call 28; (with_reducible refine (CK.out _ HT2.out).mono ?_); rintro e w3 ⟨rfl, hb⟩; have HB3 := Aside0.mk (below_then HB02.out HB02.out.size hb); clear hb)
      go_ret
      exact ⟨rfl, HB3.out⟩
set_option maxRecDepth 100000 in
set_option maxHeartbeats 8000000 in
theorem deep_out (n way : Int) (h : n < 0 ∨ (0 ≤ n ∧ 12 < n) ∨ (0 ≤ n ∧ n ≤ 12 ∧ way < 0) ∨ (0 ≤ n ∧ n ≤ 12 ∧ 0 ≤ way ∧ 2 < way)) (w : World) :
    Calls Tryd.prog 5 #[.int .i64 n, .int .i64 way] w fun e w' => e = .returned (.bool true) ∧ Below w.heap.size w w' := by
  rcases h with h1 | ⟨h1, h2⟩ | ⟨h1, h2, h3⟩ | ⟨h1, h2, h3, h4⟩
  all_goals
    go_enter Tryd.func5, Tryd.ntmps5
    go_wp2_with fail
    go_ret
    exact ⟨rfl, Below.refl _ _⟩
theorem deep_law (n way : Int) (w : World) (_h1 : (Lit.int .i64 n).wf = true) (_h2 : (Lit.int .i64 way).wf = true) (hT : Tabs w) :
    Calls Tryd.prog 5 #[.int .i64 n, .int .i64 way] w fun e w' => e = .returned (.bool true) ∧ Below w.heap.size w w' := by
  by_cases hin : 0 ≤ n ∧ n ≤ 12 ∧ 0 ≤ way ∧ way ≤ 2
  · obtain ⟨a1, a2, a3, a4⟩ := hin
    obtain ⟨m, rfl⟩ : ∃ m : Nat, n = (m : Int) := ⟨n.toNat, by omega⟩
    have hm : m ≤ 12 := by omega
    rcases (show way = 0 ∨ way = 1 ∨ way = 2 by omega) with rfl | rfl | rfl
    · have h := deep_0 ⟨m, by omega⟩
      obtain ⟨⟨p, at', er⟩, hr⟩ : ∃ r, readS (txt [40] [41] m) = r := ⟨_, rfl⟩
      unfold deepB at h
      simp only [hr] at h
      by_cases h5 : 5 < m
      · rw [if_pos ⟨by decide, h5⟩] at h
        simp only [Bool.and_eq_true, beq_iff_eq] at h
        exact deep_err0 m hm p at' er hr h5 h.1.1 h.1.2 h.2 w hT
      · rw [if_neg (fun hh => h5 hh.2)] at h
        simp only [Bool.and_eq_true, beq_iff_eq] at h
        exact deep_one0 m hm p at' er hr (by omega) h.1.1 h.1.2 (by simpa using h.2) w hT
    · have h := deep_1 ⟨m, by omega⟩
      obtain ⟨⟨p, at', er⟩, hr⟩ : ∃ r, readS (txt [94] [] m) = r := ⟨_, rfl⟩
      unfold deepB at h
      simp only [hr] at h
      by_cases h5 : 5 < m
      · rw [if_pos ⟨by decide, h5⟩] at h
        simp only [Bool.and_eq_true, beq_iff_eq] at h
        exact deep_err1 m hm p at' er hr h5 h.1.1 h.1.2 h.2 w hT
      · rw [if_neg (fun hh => h5 hh.2)] at h
        simp only [Bool.and_eq_true, beq_iff_eq] at h
        by_cases h0 : m = 0
        · exact deep_one1 m hm p at' er hr (by omega) h0 h.1.1 h.1.2 (by simpa [h0] using h.2) w hT
        · exact deep_two1 m hm p at' er hr (by omega) h0 h.1.1 h.1.2 (by
            have h2 := h.2
            rw [show (m == 0) = false from by simpa using h0] at h2
            simpa using h2) w hT
    · have h := deep_2 ⟨m, by omega⟩
      obtain ⟨⟨p, at', er⟩, hr⟩ : ∃ r, readS (txt [] [42] m) = r := ⟨_, rfl⟩
      unfold deepB at h
      simp only [hr] at h
      rw [if_neg (fun hh => absurd hh.1 (by decide))] at h
      simp only [Bool.and_eq_true, beq_iff_eq] at h
      by_cases h0 : m = 0
      · exact deep_one2 m hm p at' er hr h0 h.1.1 h.1.2 (by simpa [h0] using h.2) w hT
      · exact deep_two2 m hm p at' er hr h0 h.1.1 h.1.2 (by
          have h2 := h.2
          rw [show (m == 0) = false from by simpa using h0] at h2
          simpa using h2) w hT
  · exact deep_out n way (by omega) w
end Go.Proofs.YtbaegfjoionojaaDoor.Qy
