/- The walk of the reader's upTo: up to the sign, what a show wrote is read back. -/
import Derived.Test.YtmenjcjpihpjjaaDoorTmY
set_option linter.unusedSimpArgs false
set_option linter.unusedVariables false
namespace Go.Proofs.YtmenjcjpihpjjaaDoor.Tm
open Go Go.RowKit Go.Shelf Go.Proofs.YtmenjcjpihpjjaaDoorW.PrintWords

/-- A reader at a block: what is left; it does not err. -/
def Rd (w : World) (b : Nat) (s : ByteArray) : Prop := w.heap[b]? = some (.cells #[.string s, .bool false] 49 (0, 0))
theorem Rd.below {w w1 : World} {b : Nat} {s : ByteArray} (h : Rd w b s) (hb : Below w.heap.size w w1) : Rd w1 b s := (hb.block b (blk_lt h)).trans h
theorem Rd.cells {w : World} {b : Nat} {s : ByteArray} (h : Rd w b s) : w.cell? ⟨b, 0, none⟩ = some (.string s) ∧ w.cell? ⟨b, 1, none⟩ = some (.bool false) ∧ w.frozen? ⟨b, 0, none⟩ = false := ⟨blk_cell h 0, blk_cell h 1, blk_frozen h 0⟩
theorem Rd.set {w : World} {b : Nat} {s : ByteArray} (h : Rd w b s) (s2 : ByteArray) : Rd (w.setCell ⟨b, 0, none⟩ (.string s2)) b s2 := (blk_set h 0 _).trans rfl
theorem Kp.set {R b : Nat} {w0 w : World} (h : Kp R b w0 w) (v : Value) : Kp R b w0 (w.setCell ⟨b, 0, none⟩ v) := ⟨h.1.setCell (Nat.le_refl _) _, fun i hi hn => (Below.heap_setCell w ⟨b, 0, none⟩ _ i hn).trans (h.2 i hi hn)⟩
theorem esc_any (c : Nat) (hm : mustB c = true) (s : ByteArray) (m : List UInt8) (w : World) (h : s.data.toList = (escL c).tail ++ m) (hs2 : s.size ≤ 100000) : Calls Tryd.prog 74 #[.string s, .bool true] w (EscP c ((escL c).length - 1) w) := by
  rcases must_cases hm with rfl | rfl | rfl | rfl | rfl | rfl | rfl | rfl | rfl | rfl | rfl | rfl | rfl | rfl | rfl | rfl | rfl | rfl | rfl | rfl | rfl | rfl | rfl | rfl | rfl | rfl | rfl | rfl | rfl | rfl | rfl | rfl | rfl | rfl | rfl
  all_goals first
    | exact esc_34 s m w h hs2
    | exact esc_92 s m w h hs2
    | exact esc_10 s m w h hs2
    | exact esc_13 s m w h hs2
    | exact esc_9 s m w h hs2
    | exact esc_8 s m w h hs2
    | exact esc_12 s m w h hs2
    | exact esc_hex s _ _ m w h hs2 (by decide) (by decide) (by decide)
theorem esc_head (c : Nat) : ∃ t, escL c = 92 :: t := by
  unfold escL
  repeat' split
  all_goals exact ⟨_, rfl⟩
theorem qL_split {l : List UInt8} {k : Nat} (h : k < l.length) : qL l = qL (l.take k) ++ (qByte l[k] ++ qL (l.drop (k + 1))) := by
  conv => lhs; rw [← List.take_append_drop k l, List.drop_eq_getElem_cons h]
  unfold qL
  rw [List.flatMap_append, List.flatMap_cons]
theorem mid_at {s : ByteArray} {a b : List UInt8} {c : UInt8} (h : s.data.toList = a ++ c :: b) (hi : a.length < s.size) : s[a.length] = c := by
  rw [at_of h a.length hi (by simp)]
  simp
theorem mid_drop {s : ByteArray} {a b : List UInt8} {c : UInt8} (h : s.data.toList = a ++ c :: b) : (s.extract (a.length + 1) s.size).data.toList = b := by
  rw [ByteArray.data_extract, Array.toList_extract, List.extract_eq_take_drop, h]
  rw [show a ++ c :: b = (a ++ [c]) ++ b by simp, show a.length + 1 = (a ++ [c]).length by simp, List.drop_left]
  exact List.take_of_length_le (by have := size_list s; rw [h] at this; simp at this; simp; omega)
set_option maxRecDepth 100000 in
set_option maxHeartbeats 8000000 in
theorem upTo_62 (b : Nat) (s : ByteArray) (l rest : List UInt8) (w : World) (hR : Rd w b s) (h : s.data.toList = qL l ++ 62 :: rest) (hs2 : s.size ≤ 50000) (hl : ∀ c ∈ l, mustB c.toNat = false ∧ c ≠ 62) :
    Calls Tryd.prog 53 #[.pointer (some ⟨b, 0, none⟩), .int .u8 62, .bool false] w fun e w' => e = .returned (.string ⟨l.toArray⟩) ∧ Rd w' b ⟨rest.toArray⟩ ∧ Kp w.heap.size b w w' := by
  have hbl := blk_lt hR
  have hsz : s.size = (qL l).length + rest.length + 1 := by rw [← size_list, h]; simp; omega
  have HR := Aside0.mk hR
  have HK := Aside0.mk (Kp.refl w.heap.size b w)
  have HH := Aside0.mk h
  have HL := Aside0.mk hl
  have HSZ := Aside0.mk hsz
  have hs3 : (s.size : Int) ≤ 50000 := by omega
  clear hR h hl hsz
  go_enter Tryd.func53, Tryd.ntmps53
  go_wp2_with fail
  go_loopw [7, 8] (fun x y wr => ∃ (sb : ByteArray) (k : Nat), x = .string sb ∧ y = .int .i64 (((qL (l.take k)).length : Nat) : Int) ∧ k ≤ l.length ∧ sb.size ≤ (qL (l.take k)).length ∧ Aside0 (sb.data.toList = l.take k) ∧ Aside0 (Rd wr b s) ∧ Aside0 (Kp w.heap.size b w wr)) (fun _ y _ => s.size - (intOf y).toNat)
  case atStart => exact ⟨⟨#[]⟩, 0, rfl, rfl, by omega, Nat.zero_le _, ⟨rfl⟩, HR, HK⟩
  case round =>
    clear HR HK
    obtain ⟨wa, rfl⟩ : ∃ x, x = wr := ⟨wr, rfl⟩
    obtain ⟨sb, k, rfl, rfl, hk, hsb, HS, HR, HK⟩ := hrel
    obtain ⟨c0, c1, f0⟩ := HR.out.cells
    by_cases hlt : k < l.length
    · have hsp := qL_split hlt
      have hstep := qL_step (l := l) (k := k) (c := l[k]) (List.getElem?_eq_getElem hlt)
      have HST : Aside0 (qL (l.take (k + 1)) = qL (l.take k) ++ qByte l[k]) := ⟨hstep⟩
      have HTK : Aside0 (l.take (k + 1) = l.take k ++ [l[k]]) := ⟨List.take_succ_eq_append_getElem hlt⟩
      have HHs : Aside0 (s.data.toList = qL (l.take k) ++ (qByte l[k] ++ (qL (l.drop (k + 1)) ++ 62 :: rest))) := ⟨by rw [HH.out, hsp]; simp⟩
      have HLc := Aside0.mk (HL.out l[k] (List.getElem_mem hlt))
      obtain ⟨a, ha⟩ : ∃ a, a = qL (l.take k) := ⟨_, rfl⟩
      rw [← ha] at HST HHs hsb
      rw [← ha]
      obtain ⟨c, hc⟩ : ∃ c, c = l[k] := ⟨_, rfl⟩
      rw [← hc] at HST HTK HHs
      try rw [← hc] at HLc
      clear hsp hstep ha hc
      obtain ⟨i, hi⟩ : ∃ i, i = a.length := ⟨_, rfl⟩
      have HI := Aside0.mk hi
      rw [← hi] at hsb
      rw [← hi]
      clear hi
      cases hm : mustB c.toNat with
      | false =>
        have HB : Aside0 (qByte c = [c]) := ⟨by unfold qByte; rw [hm]; simp⟩
        have HH2 : Aside0 (s.data.toList = a ++ c :: (qL (l.drop (k + 1)) ++ 62 :: rest)) := ⟨by rw [HHs.out, HB.out]; rfl⟩
        have his : i < s.size := by
          have := size_list s
          rw [HH2.out, List.length_append, List.length_cons, ← HI.out] at this; omega
        obtain ⟨x, hx⟩ : ∃ x, s[i].toNat = x := ⟨_, rfl⟩
        have hxc : x = c.toNat := by
          rw [← hx]
          have h1 := HI.out
          subst h1
          rw [mid_at HH2.out his]
        have hms : 32 ≤ x ∧ x ≠ 34 ∧ x ≠ 92 ∧ x ≠ 127 := by
          rw [hxc]; unfold mustB at hm; simp at hm; omega
        have hxe : x ≠ 62 := by exact fun h => HLc.out.2 (UInt8.toNat_inj.1 (hxc.symm.trans h))
        have p1 : ((x : Int) == 62) = false := by rw [beq_eq_false_iff_ne]; omega
        have p2 : ((x : Int) == 92) = false := by rw [beq_eq_false_iff_ne]; omega
        have p3 : ((x : Int) == 10) = false := by rw [beq_eq_false_iff_ne]; omega
        have p4 : ((x : Int) == 13) = false := by rw [beq_eq_false_iff_ne]; omega
        have HX := ext_one s i his
        obtain ⟨e1, he1⟩ : ∃ e1, s.extract i (i + 1) = e1 := ⟨_, rfl⟩
        have hsl : (Instr.slice 9 (.string s) (some (.int .i64 (i : Int))) (some (.int .i64 ((i : Int) + 1))) none).run Tryd.prog wa = .ok (.string e1) wa := by
          have := run_slice_string (P := Tryd.prog) wa 9 s .i64 .i64 (i : Int) ((i : Int) + 1) Tryd.underlying9 (by omega) (by omega) (by omega)
          rwa [show ((i : Int)).toNat = i by omega, show ((i : Int) + 1).toNat = i + 1 by omega, he1] at this
        rw [he1] at HX
        have HX := Aside0.mk HX
        have hes : e1.size = 1 := by rw [← size_list, HX.out]; rfl
        have HC : Aside0 (s[i] = c) := ⟨UInt8.toNat_inj.1 (hx.trans hxc)⟩
        have hb9 : ¬ 9223372036854775807 < sb.size + 1 := by omega
        have gi2 : (i : Int) < (s.size : Int) := by omega
        have gi4 : (i : Int) + 1 ≤ (s.size : Int) := by omega
        have gi0 : (0 : Int) ≤ (i : Int) := by omega
        clear hxc hms hxe he1 hm
        go_wp2_with fail
        go_roundw
        case rel => exact ⟨_, k + 1, rfl, by rw [HST.out, HB.out, List.length_append, ← HI.out]; go_num, by omega, by rw [ByteArray.size_append, HST.out, HB.out, List.length_append, ← HI.out]; simp; omega, ⟨by rw [lst_app, HS.out, HX.out, HTK.out, HC.out]⟩, HR, HK⟩
        case measure => simp [intOf]; omega
      | true =>
        exact absurd (HLc.out.1.symm.trans hm) (by decide)
    · have hks : k = l.length := by omega
      have HX : Aside0 (s.data.toList = qL l ++ 62 :: rest) := HH
      rw [show l.take k = l by rw [hks]; exact List.take_length] at *
      have hi : (qL l).length < s.size := by have := HSZ.out; omega
      have hx : s[(qL l).length].toNat = 62 := by rw [mid_at HX.out hi]; rfl
      have hd := mid_drop HX.out
      obtain ⟨i, hie⟩ : ∃ i, (qL l).length = i := ⟨_, rfl⟩
      simp only [hie] at hx hd hi
      rw [hie]
      obtain ⟨s3, hs3e⟩ : ∃ s3, s.extract (i + 1) s.size = s3 := ⟨_, rfl⟩
      rw [hs3e] at hd
      have H3 : Aside0 (s3 = ⟨rest.toArray⟩) := ⟨by rw [ba_lst s3]; unfold lst; rw [hd]⟩
      have hi4 : (i : Int) + 1 ≤ (s.size : Int) := by omega
      have hi2 : (i : Int) < (s.size : Int) := by omega
      have HE : Aside0 (sb = ⟨l.toArray⟩) := ⟨by rw [ba_lst sb]; unfold lst; rw [HS.out]⟩
      clear hd
      go_wp2_with fail
      go_ret
      exact ⟨ret_str HE.out, by rw [← H3.out]; exact HR.out.set s3, HK.out.set _⟩
set_option maxRecDepth 100000 in
set_option maxHeartbeats 8000000 in
theorem upTo_34 (b : Nat) (s : ByteArray) (l rest : List UInt8) (w : World) (hR : Rd w b s) (h : s.data.toList = qL l ++ 34 :: rest) (hs2 : s.size ≤ 50000) (hl : ∀ c ∈ l, True) :
    Calls Tryd.prog 53 #[.pointer (some ⟨b, 0, none⟩), .int .u8 34, .bool true] w fun e w' => e = .returned (.string ⟨l.toArray⟩) ∧ Rd w' b ⟨rest.toArray⟩ ∧ Kp w.heap.size b w w' := by
  have hbl := blk_lt hR
  have hsz : s.size = (qL l).length + rest.length + 1 := by rw [← size_list, h]; simp; omega
  have HR := Aside0.mk hR
  have HK := Aside0.mk (Kp.refl w.heap.size b w)
  have HH := Aside0.mk h
  have HL := Aside0.mk hl
  have HSZ := Aside0.mk hsz
  have hs3 : (s.size : Int) ≤ 50000 := by omega
  clear hR h hl hsz
  go_enter Tryd.func53, Tryd.ntmps53
  go_wp2_with fail
  go_loopw [7, 8] (fun x y wr => ∃ (sb : ByteArray) (k : Nat), x = .string sb ∧ y = .int .i64 (((qL (l.take k)).length : Nat) : Int) ∧ k ≤ l.length ∧ sb.size ≤ (qL (l.take k)).length ∧ Aside0 (sb.data.toList = l.take k) ∧ Aside0 (Rd wr b s) ∧ Aside0 (Kp w.heap.size b w wr)) (fun _ y _ => s.size - (intOf y).toNat)
  case atStart => exact ⟨⟨#[]⟩, 0, rfl, rfl, by omega, Nat.zero_le _, ⟨rfl⟩, HR, HK⟩
  case round =>
    clear HR HK
    obtain ⟨wa, rfl⟩ : ∃ x, x = wr := ⟨wr, rfl⟩
    obtain ⟨sb, k, rfl, rfl, hk, hsb, HS, HR, HK⟩ := hrel
    obtain ⟨c0, c1, f0⟩ := HR.out.cells
    by_cases hlt : k < l.length
    · have hsp := qL_split hlt
      have hstep := qL_step (l := l) (k := k) (c := l[k]) (List.getElem?_eq_getElem hlt)
      have HST : Aside0 (qL (l.take (k + 1)) = qL (l.take k) ++ qByte l[k]) := ⟨hstep⟩
      have HTK : Aside0 (l.take (k + 1) = l.take k ++ [l[k]]) := ⟨List.take_succ_eq_append_getElem hlt⟩
      have HHs : Aside0 (s.data.toList = qL (l.take k) ++ (qByte l[k] ++ (qL (l.drop (k + 1)) ++ 34 :: rest))) := ⟨by rw [HH.out, hsp]; simp⟩
      have HLc := Aside0.mk (HL.out l[k] (List.getElem_mem hlt))
      obtain ⟨a, ha⟩ : ∃ a, a = qL (l.take k) := ⟨_, rfl⟩
      rw [← ha] at HST HHs hsb
      rw [← ha]
      obtain ⟨c, hc⟩ : ∃ c, c = l[k] := ⟨_, rfl⟩
      rw [← hc] at HST HTK HHs
      try rw [← hc] at HLc
      clear hsp hstep ha hc
      obtain ⟨i, hi⟩ : ∃ i, i = a.length := ⟨_, rfl⟩
      have HI := Aside0.mk hi
      rw [← hi] at hsb
      rw [← hi]
      clear hi
      cases hm : mustB c.toNat with
      | false =>
        have HB : Aside0 (qByte c = [c]) := ⟨by unfold qByte; rw [hm]; simp⟩
        have HH2 : Aside0 (s.data.toList = a ++ c :: (qL (l.drop (k + 1)) ++ 34 :: rest)) := ⟨by rw [HHs.out, HB.out]; rfl⟩
        have his : i < s.size := by
          have := size_list s
          rw [HH2.out, List.length_append, List.length_cons, ← HI.out] at this; omega
        obtain ⟨x, hx⟩ : ∃ x, s[i].toNat = x := ⟨_, rfl⟩
        have hxc : x = c.toNat := by
          rw [← hx]
          have h1 := HI.out
          subst h1
          rw [mid_at HH2.out his]
        have hms : 32 ≤ x ∧ x ≠ 34 ∧ x ≠ 92 ∧ x ≠ 127 := by
          rw [hxc]; unfold mustB at hm; simp at hm; omega
        have hxe : x ≠ 34 := by omega
        have p1 : ((x : Int) == 34) = false := by rw [beq_eq_false_iff_ne]; omega
        have p2 : ((x : Int) == 92) = false := by rw [beq_eq_false_iff_ne]; omega
        have p3 : ((x : Int) == 10) = false := by rw [beq_eq_false_iff_ne]; omega
        have p4 : ((x : Int) == 13) = false := by rw [beq_eq_false_iff_ne]; omega
        have HX := ext_one s i his
        obtain ⟨e1, he1⟩ : ∃ e1, s.extract i (i + 1) = e1 := ⟨_, rfl⟩
        have hsl : (Instr.slice 9 (.string s) (some (.int .i64 (i : Int))) (some (.int .i64 ((i : Int) + 1))) none).run Tryd.prog wa = .ok (.string e1) wa := by
          have := run_slice_string (P := Tryd.prog) wa 9 s .i64 .i64 (i : Int) ((i : Int) + 1) Tryd.underlying9 (by omega) (by omega) (by omega)
          rwa [show ((i : Int)).toNat = i by omega, show ((i : Int) + 1).toNat = i + 1 by omega, he1] at this
        rw [he1] at HX
        have HX := Aside0.mk HX
        have hes : e1.size = 1 := by rw [← size_list, HX.out]; rfl
        have HC : Aside0 (s[i] = c) := ⟨UInt8.toNat_inj.1 (hx.trans hxc)⟩
        have hb9 : ¬ 9223372036854775807 < sb.size + 1 := by omega
        have gi2 : (i : Int) < (s.size : Int) := by omega
        have gi4 : (i : Int) + 1 ≤ (s.size : Int) := by omega
        have gi0 : (0 : Int) ≤ (i : Int) := by omega
        clear hxc hms hxe he1 hm
        go_wp2_with fail
        go_roundw
        case rel => exact ⟨_, k + 1, rfl, by rw [HST.out, HB.out, List.length_append, ← HI.out]; go_num, by omega, by rw [ByteArray.size_append, HST.out, HB.out, List.length_append, ← HI.out]; simp; omega, ⟨by rw [lst_app, HS.out, HX.out, HTK.out, HC.out]⟩, HR, HK⟩
        case measure => simp [intOf]; omega
      | true =>
        have HB : Aside0 (qByte c = escL c.toNat) := ⟨by unfold qByte; rw [if_pos hm]⟩
        obtain ⟨t, ht⟩ := esc_head c.toNat
        have HH2 : Aside0 (s.data.toList = a ++ 92 :: (t ++ (qL (l.drop (k + 1)) ++ 34 :: rest))) := ⟨by rw [HHs.out, HB.out, ht]; rfl⟩
        have his : i < s.size := by
          have := size_list s
          rw [HH2.out, List.length_append, List.length_cons, ← HI.out] at this; omega
        have hx : s[i].toNat = 92 := by
          have h1 := HI.out
          subst h1
          rw [mid_at HH2.out his]; rfl
        have hd := mid_drop HH2.out
        rw [← HI.out] at hd
        obtain ⟨s2, hs2e⟩ : ∃ s2, s.extract (i + 1) s.size = s2 := ⟨_, rfl⟩
        rw [hs2e] at hd
        have hz2 : s2.size ≤ 100000 := by rw [← hs2e, ByteArray.size_extract]; omega
        have CE := Aside0.mk (fun W => esc_any c.toNat hm s2 (qL (l.drop (k + 1)) ++ 34 :: rest) W (by rw [hd, ht]; rfl) hz2)
        obtain ⟨n, hn⟩ : ∃ n, n = (escL c.toNat).length - 1 := ⟨_, rfl⟩
        have hn1 : 1 ≤ n ∧ n ≤ 5 := by
          have h1 := escL_len c.toNat
          have h2 : 2 ≤ (escL c.toNat).length := by unfold escL; repeat' split
                                                    all_goals simp
          omega
        have HN : Aside0 ((escL c.toNat).length = n + 1) := ⟨by omega⟩
        rw [← hn] at CE
        unfold EscP at CE
        rw [show c.toNat.toUInt8 = c by simp] at CE
        have hn0 : ((n : Int) == 0) = false := by rw [beq_eq_false_iff_ne]; omega
        have hb9 : ¬ 9223372036854775807 < sb.size + 1 := by omega
        have gi2 : (i : Int) < (s.size : Int) := by omega
        have gi4 : (i : Int) + 1 ≤ (s.size : Int) := by omega
        have gi0 : (0 : Int) ≤ (i : Int) := by omega
        have gn0 : (1 : Int) ≤ (n : Int) := by omega
        have gn5 : (n : Int) ≤ 5 := by omega
        have HM := Aside0.mk hm
        clear hd hn hn1 ht hz2 hm
        go_wp2_with (go_at_call 74; (try rw [hs2e]); (with_reducible refine (CE.out _).mono ?_); rintro e w2 ⟨rfl, hb⟩; have HR2 := Aside0.mk (HR.out.below hb); have HK2 := Aside0.mk (HK.out.below HK.out.1.size hb hbl); obtain ⟨d0, d1, f1⟩ := HR2.out.cells; clear hb)
        go_roundw
        case rel => exact ⟨_, k + 1, rfl, by rw [HST.out, HB.out, List.length_append, ← HI.out, HN.out]; go_num, by omega, by rw [ByteArray.size_append, HST.out, HB.out, List.length_append, ← HI.out, HN.out]; show sb.size + 1 ≤ _; omega, ⟨by rw [lst_app, HS.out, HTK.out]⟩, HR2, HK2⟩
        case measure => simp [intOf]; omega
    · have hks : k = l.length := by omega
      have HX : Aside0 (s.data.toList = qL l ++ 34 :: rest) := HH
      rw [show l.take k = l by rw [hks]; exact List.take_length] at *
      have hi : (qL l).length < s.size := by have := HSZ.out; omega
      have hx : s[(qL l).length].toNat = 34 := by rw [mid_at HX.out hi]; rfl
      have hd := mid_drop HX.out
      obtain ⟨i, hie⟩ : ∃ i, (qL l).length = i := ⟨_, rfl⟩
      simp only [hie] at hx hd hi
      rw [hie]
      obtain ⟨s3, hs3e⟩ : ∃ s3, s.extract (i + 1) s.size = s3 := ⟨_, rfl⟩
      rw [hs3e] at hd
      have H3 : Aside0 (s3 = ⟨rest.toArray⟩) := ⟨by rw [ba_lst s3]; unfold lst; rw [hd]⟩
      have hi4 : (i : Int) + 1 ≤ (s.size : Int) := by omega
      have hi2 : (i : Int) < (s.size : Int) := by omega
      have HE : Aside0 (sb = ⟨l.toArray⟩) := ⟨by rw [ba_lst sb]; unfold lst; rw [HS.out]⟩
      clear hd
      go_wp2_with fail
      go_ret
      exact ⟨ret_str HE.out, by rw [← H3.out]; exact HR.out.set s3, HK.out.set _⟩
end Go.Proofs.YtmenjcjpihpjjaaDoor.Tm
