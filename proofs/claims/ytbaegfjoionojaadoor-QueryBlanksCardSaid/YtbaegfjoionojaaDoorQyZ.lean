/- Paths, plain: blanks put between a path's signs change nothing. -/
import Derived.Test.YtbaegfjoionojaaDoorQyX
set_option linter.unusedSimpArgs false
set_option linter.unusedVariables false
namespace Go.Proofs.YtbaegfjoionojaaDoor.Qy
open Go Go.Proofs.YtbaegfjoionojaaDoor.Tm

/-- Is what stands behind a sign within an IRI? -/
def wIn (w : Bool) (c : UInt8) : Bool := c == 60 || (w && c != 62)
def bl (w : Bool) (c : UInt8) : List UInt8 := if (!wIn w c && c != 33) = true then [32, 32] else []
/-- A text, with blanks put in. -/
def blankF : Bool → List UInt8 → List UInt8
  | _, [] => []
  | w, c :: l => c :: (bl w c ++ blankF (wIn w c) l)
def stF (w : Bool) (l : List UInt8) : Bool := l.foldl wIn w
theorem blank_app : ∀ (l m : List UInt8) (w : Bool), blankF w (l ++ m) = blankF w l ++ blankF (stF w l) m
  | [], m, w => rfl
  | c :: l, m, w => by
    show c :: (bl w c ++ blankF (wIn w c) (l ++ m)) = c :: (bl w c ++ blankF (wIn w c) l) ++ blankF (stF (wIn w c) l) m
    rw [blank_app l m]
    simp
theorem st_app (l m : List UInt8) (w : Bool) : stF w (l ++ m) = stF (stF w l) m := by unfold stF; rw [List.foldl_append]
theorem blank_len : ∀ (l : List UInt8) (w : Bool), l.length ≤ (blankF w l).length ∧ (blankF w l).length ≤ 3 * l.length
  | [], w => by simp [blankF]
  | c :: l, w => by
    have := blank_len l (wIn w c)
    have hb : (bl w c).length ≤ 2 := by unfold bl; split <;> simp
    unfold blankF
    simp only [List.length_cons, List.length_append]
    omega
def Out (l m : List UInt8) : Prop := blankF false l = m ∧ stF false l = false
theorem Out.app {l m l' m' : List UInt8} (h : Out l m) (h' : Out l' m') : Out (l ++ l') (m ++ m') :=
  ⟨by rw [blank_app, h.1, h.2, h'.1], by rw [st_app, h.2, h'.2]⟩
theorem Out.nil : Out [] [] := ⟨rfl, rfl⟩
theorem out_iri : ∀ (t : List UInt8), (∀ b ∈ t, b ≠ 62) → blankF true (t ++ [62]) = t ++ 62 :: gap 2 ∧ stF true (t ++ [62]) = false
  | [], _ => ⟨rfl, rfl⟩
  | b :: t, h => by
    have hb := h b (by simp)
    obtain ⟨h1, h2⟩ := out_iri t (fun x hx => h x (by simp [hx]))
    have hw : wIn true b = true := by
      unfold wIn
      rw [show (b != 62) = true by rw [bne_iff_ne]; exact hb]
      simp
    have hbl : bl true b = [] := by unfold bl; rw [hw]; rfl
    constructor
    · show b :: (bl true b ++ blankF (wIn true b) (t ++ [62])) = _
      rw [hbl, hw, h1]; rfl
    · show stF (wIn true b) (t ++ [62]) = false
      rw [hw, h2]
theorem Out.iri {t : ByteArray} (h : iriB t = true) : Out (60 :: (t.data.toList ++ 62 :: gap 0)) (60 :: (t.data.toList ++ 62 :: gap 2)) := by
  obtain ⟨h1, h2⟩ := out_iri t.data.toList (iri_byte h)
  constructor
  · show 60 :: (bl false 60 ++ blankF (wIn false 60) (t.data.toList ++ [62])) = _
    rw [show wIn false 60 = true from rfl, show bl false 60 = [] from rfl, h1]; rfl
  · show stF (wIn false 60) (t.data.toList ++ [62]) = false
    rw [show wIn false 60 = true from rfl, h2]
theorem Out.sign {c : UInt8} {l m : List UInt8} (h60 : c ≠ 60) (h33 : c ≠ 33) (h : Out l m) : Out (c :: (gap 0 ++ l)) (c :: (gap 2 ++ m)) := by
  have hw : wIn false c = false := by
    unfold wIn
    rw [show (c == 60) = false by rw [beq_eq_false_iff_ne]; exact h60]
    simp
  have hb : bl false c = [32, 32] := by
    unfold bl
    rw [hw, show (c != 33) = true by rw [bne_iff_ne]; exact h33]
    rfl
  constructor
  · show c :: (bl false c ++ blankF (wIn false c) l) = _
    rw [hw, hb, h.1]; rfl
  · show stF (wIn false c) l = false
    rw [hw, h.2]
theorem out_tail : ∀ l : List ByteArray, l.all iriB = true → Out (tailG 0 l) (tailG 2 l)
  | [], _ => by
    have := Out.sign (c := 41) (by decide) (by decide) Out.nil
    simpa [tailG, gap] using this
  | t :: l, h => by
    rw [List.all_cons, Bool.and_eq_true] at h
    have := Out.sign (c := 124) (by decide) (by decide) ((Out.iri h.1).app (out_tail l h.2))
    unfold tailG
    simpa [gap] using this
theorem out_texts : ∀ l : List ByteArray, l.all iriB = true → Out (textsG 0 l) (textsG 2 l)
  | [], _ => Out.nil
  | t :: l, h => by
    rw [List.all_cons, Bool.and_eq_true] at h
    have := (Out.iri h.1).app (out_tail l h.2)
    unfold textsG
    simpa [gap] using this
theorem out_show : ∀ (p : Pth) (d n : Nat), countP p d = some n → Out (showG 0 p) (showG 2 p) := by
  intro p
  induction p using Pth.ind with
  | h k t ts ks ih =>
  intro d n hcp
  obtain ⟨hh, m, hm, rfl⟩ := count_mk hcp
  obtain ⟨h1, h2, h3, h4⟩ := here_kind hh
  have hin : ∀ (q : Pth) (d a : Nat), q ∈ ks → countP q d = some a → Out (inG 0 q (showG 0 q)) (inG 2 q (showG 2 q)) := fun q d a hq ha => by
    have := ih q hq d a ha
    unfold inG
    split
    · exact this
    · have h5 := Out.sign (c := 40) (by decide) (by decide) (this.app (Out.sign (c := 41) (by decide) (by decide) Out.nil))
      simpa [gap] using h5
  unfold showG glueG
  rcases kinds_of h2 with ⟨rfl, hk⟩ | ⟨rfl, hk⟩ | ⟨rfl, hk⟩ | ⟨rfl, hk⟩ | ⟨rfl, hk⟩ | ⟨rfl, hk⟩ | ⟨rfl, hk⟩ | ⟨rfl, hk⟩
  · rw [if_pos rfl] at h3
    exact Out.iri h3
  · rw [if_pos rfl] at h4
    have h5 := Out.sign (c := 40) (by decide) (by decide) (out_texts ts h4.2.2)
    exact ⟨by
      show 33 :: ([] ++ blankF false (40 :: (gap 0 ++ textsG 0 ts))) = _
      rw [h5.1]; rfl, h5.2⟩
  · obtain ⟨q, rfl⟩ := list1 hk
    have := Out.sign (c := 94) (by decide) (by decide) (hin q _ _ (by simp) (count_one hm))
    exact this
  · obtain ⟨q, rfl⟩ := list1 hk
    have := (hin q _ _ (by simp) (count_one hm)).app (Out.sign (c := 42) (by decide) (by decide) Out.nil)
    simpa [gap, showsG] using this
  · obtain ⟨q, rfl⟩ := list1 hk
    have := (hin q _ _ (by simp) (count_one hm)).app (Out.sign (c := 43) (by decide) (by decide) Out.nil)
    simpa [gap, showsG] using this
  · obtain ⟨q, rfl⟩ := list1 hk
    have := (hin q _ _ (by simp) (count_one hm)).app (Out.sign (c := 63) (by decide) (by decide) Out.nil)
    simpa [gap, showsG] using this
  · obtain ⟨q, r, rfl⟩ := list2 hk
    obtain ⟨a, b, ha, hb, rfl⟩ := count_two hm
    have := (hin q _ _ (by simp) ha).app (Out.sign (c := 47) (by decide) (by decide) (hin r _ _ (by simp) hb))
    simpa [gap, showsG] using this
  · obtain ⟨q, r, rfl⟩ := list2 hk
    obtain ⟨a, b, ha, hb, rfl⟩ := count_two hm
    have := (hin q _ _ (by simp) ha).app (Out.sign (c := 124) (by decide) (by decide) (hin r _ _ (by simp) hb))
    simpa [gap, showsG] using this
/-- A text with a blank ahead, and blanks put in. -/
def blankB (s : ByteArray) : ByteArray := ⟨(32 :: blankF false s.data.toList).toArray⟩
theorem blankB_size (s : ByteArray) : s.size < (blankB s).size ∧ (blankB s).size ≤ 3 * s.size + 1 := by
  have := blank_len s.data.toList false
  have e : (blankB s).size = (blankF false s.data.toList).length + 1 := ba_size (32 :: blankF false s.data.toList)
  have := size_list s
  omega
theorem blank_good {p : Pth} (h : isP p = true) : Good (blankB (showB p)) (pathS (blankB (showB p)) (backS (blankB (showB p)) 5) 0) p (blankB (showB p)).size (fitB p 5) := by
  obtain ⟨c0, hc, -, -⟩ := may_shown h
  have hz := show_zero p 0 c0 hc
  have ho := (out_show p 0 c0 hc).1
  obtain ⟨b, l, hb, hb2⟩ := show_first (g := 2) p 0 c0 hc
  have ha := AtL.all (blankB (showB p))
  have hd : (blankB (showB p)).data.toList = 32 :: showG 2 p := by
    rw [← ho, hz]; rfl
  rw [hd] at ha
  obtain ⟨h1, h2, h3⟩ := ha.cons
  have hs : skip (blankB (showB p)) 0 = 1 := by
    rw [skip_go h1 h2]
    rw [hb] at h3
    exact skip_nb h3 hb2
  refine read_text (g := 2) hc hs h3 ?_
  have := size_list (blankB (showB p))
  rw [hd, List.length_cons] at this
  omega
end Go.Proofs.YtbaegfjoionojaaDoor.Qy
