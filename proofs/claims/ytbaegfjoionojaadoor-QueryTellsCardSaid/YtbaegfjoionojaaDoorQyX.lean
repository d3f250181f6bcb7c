/- Paths, plain: a path that may be, written with so many blanks behind each sign, is read as it was, or it is too deep. -/
import Derived.Test.YtbaegfjoionojaaDoorQyH
set_option linter.unusedSimpArgs false
set_option linter.unusedVariables false
namespace Go.Proofs.YtbaegfjoionojaaDoor.Qy
open Go Go.Proofs.YtbaegfjoionojaaDoor.Tm

/-! ### the bytes of an IRI -/
theorem decode_cont (s : ByteArray) (i : Nat) (h : ¬ byteAt s i < 128) : ∀ j, 0 < j → j < (Utf8.decode s i).2 → 128 ≤ byteAt s (i + j) := by
  unfold byteAt at *
  unfold Utf8.decode
  simp only [Nat.add_zero]
  rw [if_neg h]
  repeat' split
  all_goals (try simp only [Bool.and_eq_true, decide_eq_true_eq, ge_iff_le, beq_iff_eq] at *)
  all_goals intro j h1 h2
  all_goals (try simp only at h2)
  all_goals
    rcases (show j = 1 ∨ j = 2 ∨ j = 3 ∨ 4 ≤ j by omega) with rfl | rfl | rfl | h4 <;> omega
theorem low_rune (s : ByteArray) : ∀ (f pos i : Nat), s.size ≤ pos + f → pos ≤ i → i < s.size → byteAt s i < 128 → byteAt s i ∈ runesF s f pos
  | 0, pos, i, h, h1, h2, _ => by omega
  | f + 1, pos, i, h, h1, h2, h3 => by
    unfold runesF
    rw [if_pos (by omega)]
    by_cases hb : byteAt s pos < 128
    · rw [Tm.decode_low s pos hb]
      by_cases e : i = pos
      · subst e; simp
      · exact List.mem_cons_of_mem _ (low_rune s f (pos + 1) i (by omega) (by omega) h2 h3)
    · have hd := (Tm.decode_high s pos hb).2
      refine List.mem_cons_of_mem _ (low_rune s f _ i (by omega) ?_ h2 h3)
      have hc := decode_cont s pos hb (i - pos)
      by_cases e : i = pos
      · subst e; exact absurd h3 hb
      · have : ¬ (i - pos < (Utf8.decode s pos).2) := fun hh => by
          have := hc (by omega) hh
          rw [show pos + (i - pos) = i by omega] at this; omega
        omega
theorem byteAt_get (s : ByteArray) (i : Nat) (h : i < s.size) : s.data.toList[i]? = some (s.get! i) := by
  have : i < s.data.size := h
  rw [Array.getElem?_toList, Array.getElem?_eq_getElem this]
  rw [show s.get! i = s.data[i]! from rfl, getElem!_pos s.data i this]
theorem iri_byte {t : ByteArray} (h : iriB t = true) : ∀ b ∈ t.data.toList, b ≠ 62 := by
  intro b hb e
  obtain ⟨i, hi, he⟩ := List.getElem_of_mem hb
  have hs : i < t.size := by have := size_list t; omega
  have hg := byteAt_get t i hs
  rw [List.getElem?_eq_getElem hi] at hg
  have h62 : byteAt t i = 62 := by
    unfold byteAt
    rw [← Option.some.inj hg, he, e]; rfl
  have hm := low_rune t t.size 0 i (by omega) (Nat.zero_le _) hs (by omega)
  unfold iriB at h
  simp only [Bool.and_eq_true] at h
  have hp := List.all_eq_true.1 h.2 _ hm
  rw [h62] at hp
  exact absurd hp (by decide)

/-! ### bytes that stand in a text -/
/-- The bytes of a list stand in a text from a place on. -/
def AtL (s : ByteArray) (i : Nat) (l : List UInt8) : Prop := i + l.length ≤ s.size ∧ ∀ (j : Nat) b, l[j]? = some b → byteAt s (i + j) = b.toNat
theorem AtL.cons {s : ByteArray} {i : Nat} {b : UInt8} {l : List UInt8} (h : AtL s i (b :: l)) : i < s.size ∧ byteAt s i = b.toNat ∧ AtL s (i + 1) l := by
  refine ⟨?_, h.2 0 b rfl, ?_, fun j c hc => ?_⟩
  · have := h.1; simp only [List.length_cons] at this; omega
  · have := h.1; simp only [List.length_cons] at this; omega
  · have := h.2 (j + 1) c hc
    rwa [show i + 1 + j = i + (j + 1) by omega]
theorem AtL.app {s : ByteArray} {i : Nat} {l m : List UInt8} (h : AtL s i (l ++ m)) : AtL s i l ∧ AtL s (i + l.length) m := by
  have hl := h.1
  rw [List.length_append] at hl
  refine ⟨⟨by omega, fun j b hb => h.2 j b ?_⟩, by omega, fun j b hb => ?_⟩
  · rw [List.getElem?_append_left (List.getElem?_eq_some_iff.1 hb).1]; exact hb
  · have := h.2 (l.length + j) b (by rw [List.getElem?_append_right (by omega), Nat.add_sub_cancel_left]; exact hb)
    rwa [show i + l.length + j = i + (l.length + j) by omega]
theorem AtL.all (s : ByteArray) : AtL s 0 s.data.toList := by
  refine ⟨by rw [size_list]; omega, fun j b hb => ?_⟩
  have hj : j < s.size := by have := (List.getElem?_eq_some_iff.1 hb).1; have := size_list s; omega
  have := byteAt_get s j hj
  rw [hb] at this
  unfold byteAt
  rw [Nat.zero_add, Option.some.inj this]
/-- So many blanks. -/
def gap (g : Nat) : List UInt8 := List.replicate g 32
theorem gap_len (g : Nat) : (gap g).length = g := List.length_replicate
theorem gap_skip {s : ByteArray} : ∀ (g i : Nat), AtL s i (gap g) → skip s i = skip s (i + g)
  | 0, i, _ => rfl
  | g + 1, i, h => by
    have h' : AtL s i (32 :: gap g) := h
    obtain ⟨h1, h2, h3⟩ := h'.cons
    rw [skip_go h1 h2, gap_skip g (i + 1) h3, show i + 1 + g = i + (g + 1) by omega]
theorem skip_nb {s : ByteArray} {i : Nat} {b : UInt8} {l : List UInt8} (h : AtL s i (b :: l)) (hb : b ≠ 32) : skip s i = i := by
  obtain ⟨h1, h2, -⟩ := h.cons
  refine skip_stop fun hh => hb ?_
  rw [h2] at hh
  exact UInt8.toNat_inj.1 hh.2
theorem nx_at {s : ByteArray} {i e : Nat} {b : UInt8} {l : List UInt8} (hi : skip s i = e) (h : AtL s e (b :: l)) : nx s i = b.toNat := by
  obtain ⟨h1, h2, -⟩ := h.cons
  unfold nx
  rw [hi, if_pos h1, h2]
theorem nx_eq {s : ByteArray} {i j : Nat} (h : skip s i = skip s j) : nx s i = nx s j := by unfold nx; rw [h]
/-- Behind a sign and its blanks stands what does not begin with a blank. -/
theorem behind {s : ByteArray} {e g : Nat} {l m : List UInt8} {b : UInt8} (h : AtL s e (gap g ++ b :: l)) (hb : b ≠ 32) : skip s e = e + g ∧ AtL s (e + g) (b :: l) := by
  obtain ⟨h1, h2⟩ := h.app
  rw [gap_len] at h2
  exact ⟨by rw [gap_skip g e h1, skip_nb h2 hb], h2⟩
theorem find_over {s : ByteArray} {c : Nat} : ∀ (l : List UInt8) (i : Nat), AtL s i l → (∀ b ∈ l, b.toNat ≠ c) → findC s c i = findC s c (i + l.length)
  | [], i, _, _ => rfl
  | b :: l, i, h, hc => by
    obtain ⟨h1, h2, h3⟩ := h.cons
    rw [find_go h1 (by rw [h2]; exact hc b (by simp)), find_over l (i + 1) h3 (fun x hx => hc x (by simp [hx])), List.length_cons, show i + 1 + l.length = i + (l.length + 1) by omega]
theorem ba_ext {a b : ByteArray} (h : a.data.toList = b.data.toList) : a = b := by
  obtain ⟨⟨x⟩⟩ := a; obtain ⟨⟨y⟩⟩ := b
  obtain rfl : x = y := h
  rfl
theorem extract_at {s : ByteArray} {i : Nat} {l : List UInt8} (h : AtL s i l) : s.extract i (i + l.length) = ⟨l.toArray⟩ := by
  apply ba_ext
  rw [ext_mid, Nat.add_sub_cancel_left]
  show _ = l
  apply List.ext_getElem?
  intro j
  rw [List.getElem?_take]
  by_cases hj : j < l.length
  · rw [if_pos hj, List.getElem?_drop, byteAt_get s (i + j) (by have := h.1; omega), List.getElem?_eq_getElem hj]
    have := h.2 j _ (List.getElem?_eq_getElem hj)
    exact congrArg some (UInt8.toNat_inj.1 this)
  · rw [if_neg hj, List.getElem?_eq_none (by omega)]
theorem iri_at {s : ByteArray} {i e : Nat} {t : ByteArray} {m : List UInt8} (hi : skip s i = e) (h : AtL s e (60 :: (t.data.toList ++ 62 :: m))) (ht : iriB t = true) : iriS s i = .ok t (e + t.size + 2) ∧ AtL s (e + t.size + 2) m := by
  have hn : nx s i = 60 := nx_at hi h
  obtain ⟨-, -, h1⟩ := h.cons
  obtain ⟨h2, h3⟩ := h1.app
  obtain ⟨h4, h5, h6⟩ := h3.cons
  rw [size_list] at h4 h5 h6
  have hf : findC s 62 (e + 1) = some (e + 1 + t.size) := by
    rw [find_over (c := 62) t.data.toList (e + 1) h2 (fun b hb hh => iri_byte ht b hb (UInt8.toNat_inj.1 hh)), size_list]
    exact find_hit h4 h5
  have hx := extract_at h2
  rw [size_list] at hx
  have hx' : s.extract (e + 1) (e + 1 + t.size) = t := hx
  refine ⟨?_, by rwa [show e + t.size + 2 = e + 1 + t.size + 1 by omega]⟩
  unfold iriS
  rw [if_pos hn, hi, hf]
  simp only
  rw [hx', if_pos ht, show e + 1 + t.size + 1 = e + t.size + 2 by omega]

/-! ### a path, written with blanks behind its signs -/
def inG (g : Nat) (p : Pth) (x : List UInt8) : List UInt8 := if p.k = 1 then x else 40 :: (gap g ++ (x ++ 41 :: gap g))
def tailG (g : Nat) : List ByteArray → List UInt8
  | [] => 41 :: gap g
  | t :: l => 124 :: (gap g ++ 60 :: (t.data.toList ++ 62 :: (gap g ++ tailG g l)))
def textsG (g : Nat) : List ByteArray → List UInt8
  | [] => []
  | t :: l => 60 :: (t.data.toList ++ 62 :: (gap g ++ tailG g l))
def glueG (g : Nat) (k : Int) (t : ByteArray) (ts : List ByteArray) (ws : List (List UInt8)) : List UInt8 :=
  if k = 1 then 60 :: (t.data.toList ++ 62 :: gap g)
  else if k = 2 then 94 :: (gap g ++ ws.getD 0 [])
  else if k = 3 then ws.getD 0 [] ++ 47 :: (gap g ++ ws.getD 1 [])
  else if k = 4 then ws.getD 0 [] ++ 124 :: (gap g ++ ws.getD 1 [])
  else if k = 5 then ws.getD 0 [] ++ 42 :: gap g
  else if k = 6 then ws.getD 0 [] ++ 43 :: gap g
  else if k = 7 then ws.getD 0 [] ++ 63 :: gap g
  else 33 :: 40 :: (gap g ++ textsG g ts)
mutual
def showG (g : Nat) : Pth → List UInt8
  | .mk k t ts ks => glueG g k t ts (showsG g ks)
def showsG (g : Nat) : List Pth → List (List UInt8)
  | [] => []
  | p :: l => inG g p (showG g p) :: showsG g l
end
/-- Is there room for a path, so deep? as an atom (a), as a path. -/
def fitG (k : Int) (D : Nat) (fs : List (Nat → Bool)) : Bool :=
  if k = 1 ∨ k = 8 then true
  else if k = 2 then decide (1 ≤ D) && (fs.getD 0 (fun _ => true)) (D - 1)
  else (fs.getD 0 (fun _ => true)) D && (fs.getD 1 (fun _ => true)) D
def atomF (k : Int) (f : Nat → Bool) (D : Nat) : Bool := if k = 1 then true else decide (1 ≤ D) && f (D - 1)
mutual
def fitB : Pth → Nat → Bool
  | .mk k _ _ ks, D => fitG k D (fitsL ks)
def fitsL : List Pth → List (Nat → Bool)
  | [] => []
  | p :: l => atomF p.k (fitB p) :: fitsL l
end
def fitA (p : Pth) (D : Nat) : Bool := atomF p.k (fitB p) D

/-! ### how what is read is put together -/
def Good (s : ByteArray) (r : Res Pth) (p : Pth) (E : Nat) (fit : Bool) : Prop := if fit = true then ∃ j, r = .ok p j ∧ skip s j = skip s E else ∃ a, r = .no 3 a
theorem Good.yes {s : ByteArray} {r : Res Pth} {p : Pth} {E : Nat} {j : Nat} (h : r = .ok p j) (hj : skip s j = skip s E) : Good s r p E true := ⟨j, h, hj⟩
theorem Good.no {s : ByteArray} {r : Res Pth} {p : Pth} {E : Nat} {a : Nat} (h : r = .no 3 a) : Good s r p E false := ⟨a, h⟩
def Stop (c : Nat) : Prop := c = 0 ∨ c = 41
theorem size_pos {s : ByteArray} {i : Nat} (h : nx s i ≠ 0) : ∃ f, s.size = f + 1 := by
  have := (nx_in h).1
  exact ⟨s.size - 1, by omega⟩
theorem step_none {s : ByteArray} {B : Nat → Res Pth} {i j : Nat} {q : Pth} (h : B i = .ok q j) (hs : signK (nx s j) = none) : stepS s B i = .ok q (skip s j) := by
  unfold stepS
  rw [h]
  simp only
  unfold signsS
  rw [hs]
theorem step_sign {s : ByteArray} {B : Nat → Res Pth} {i j : Nat} {q : Pth} {k : Int} (h : B i = .ok q j) (hs : signK (nx s j) = some k) (hs2 : signK (nx s (skip s j + 1)) = none) : stepS s B i = .ok (.mk k ⟨#[]⟩ [] [q]) (skip s (skip s j + 1)) := by
  obtain ⟨f, hf⟩ := size_pos (s := s) (i := j) (fun h0 => by rw [h0] at hs; cases hs)
  unfold stepS
  rw [h]
  simp only
  unfold signsS
  rw [hs]
  simp only
  rw [hf]
  unfold signsS
  rw [hs2]
theorem stp_no {s : ByteArray} {B : Nat → Res Pth} {i a : Nat} {e : Int} (h : B i = .no e a) : stepS s B i = .no e a := by
  unfold stepS; rw [h]
theorem chain_none {s : ByteArray} {c : Nat} {kind : Int} {F : Nat → Res Pth} {f : Nat} {p : Pth} {i : Nat} (h : nx s i ≠ c) : chainS s c kind F f p i = .ok p (skip s i) := by
  cases f with
  | zero => rfl
  | succ f => unfold chainS; rw [if_neg h]
theorem seq_none {s : ByteArray} {B : Nat → Res Pth} {i j : Nat} {q : Pth} (h : stepS s B i = .ok q j) (hs : nx s j ≠ 47) : seqS s B i = .ok q (skip s j) := by
  unfold seqS; rw [h]; exact chain_none hs
theorem sq_no {s : ByteArray} {B : Nat → Res Pth} {i a : Nat} {e : Int} (h : stepS s B i = .no e a) : seqS s B i = .no e a := by
  unfold seqS; rw [h]
theorem pth_none {s : ByteArray} {B : Nat → Res Pth} {i j : Nat} {q : Pth} (h : seqS s B i = .ok q j) (hs : nx s j ≠ 124) : pathS s B i = .ok q (skip s j) := by
  unfold pathS; rw [h]; exact chain_none hs
theorem pth_no {s : ByteArray} {B : Nat → Res Pth} {i a : Nat} {e : Int} (h : seqS s B i = .no e a) : pathS s B i = .no e a := by
  unfold pathS; rw [h]
theorem chain_two {s : ByteArray} {c : Nat} {kind : Int} {F : Nat → Res Pth} {p q : Pth} {i j : Nat} (f : Nat) (hn : nx s i = c) (h : F (skip s i + 1) = .ok q j) (hs : nx s j ≠ c) : chainS s c kind F (f + 1) p i = .ok (.mk kind ⟨#[]⟩ [] [p, q]) (skip s j) := by
  unfold chainS
  rw [if_pos hn, h]
  exact chain_none hs
theorem chain_no {s : ByteArray} {c : Nat} {kind : Int} {F : Nat → Res Pth} {p : Pth} {i a : Nat} {e : Int} (f : Nat) (hn : nx s i = c) (h : F (skip s i + 1) = .no e a) : chainS s c kind F (f + 1) p i = .no e a := by
  unfold chainS
  rw [if_pos hn, h]
theorem seq_two {s : ByteArray} {B : Nat → Res Pth} {i j l : Nat} {p q : Pth} (h : stepS s B i = .ok p j) (hn : nx s j = 47) (h2 : stepS s B (skip s j + 1) = .ok q l) (hs : nx s l ≠ 47) : seqS s B i = .ok (.mk 3 ⟨#[]⟩ [] [p, q]) (skip s l) := by
  unfold seqS; rw [h]; exact chain_two _ hn h2 hs
theorem seq_two_no {s : ByteArray} {B : Nat → Res Pth} {i j a : Nat} {p : Pth} {e : Int} (h : stepS s B i = .ok p j) (hn : nx s j = 47) (h2 : stepS s B (skip s j + 1) = .no e a) : seqS s B i = .no e a := by
  unfold seqS; rw [h]; exact chain_no _ hn h2
theorem pth_two {s : ByteArray} {B : Nat → Res Pth} {i j l : Nat} {p q : Pth} (h : seqS s B i = .ok p j) (hn : nx s j = 124) (h2 : seqS s B (skip s j + 1) = .ok q l) (hs : nx s l ≠ 124) : pathS s B i = .ok (.mk 4 ⟨#[]⟩ [] [p, q]) (skip s l) := by
  unfold pathS; rw [h]; exact chain_two _ hn h2 hs
theorem pth_two_no {s : ByteArray} {B : Nat → Res Pth} {i j a : Nat} {p : Pth} {e : Int} (h : seqS s B i = .ok p j) (hn : nx s j = 124) (h2 : seqS s B (skip s j + 1) = .no e a) : pathS s B i = .no e a := by
  unfold pathS; rw [h]; exact chain_no _ hn h2
theorem sign_stop {c : Nat} (h : c = 0 ∨ c = 41 ∨ c = 47 ∨ c = 124) : signK c = none := by
  rcases h with rfl | rfl | rfl | rfl <;> rfl
theorem nxs (s : ByteArray) (j : Nat) : nx s (skip s j) = nx s j := nx_skip s j
/-- An atom alone, up to a stop. -/
theorem single {s : ByteArray} {B : Nat → Res Pth} {i : Nat} {p : Pth} {E : Nat} {fit : Bool} (h : Good s (B i) p E fit) (hs : Stop (nx s E)) : Good s (pathS s B i) p E fit := by
  cases fit with
  | false =>
    obtain ⟨a, ha⟩ := h
    exact ⟨a, pth_no (sq_no (stp_no ha))⟩
  | true =>
    obtain ⟨j, hj, he⟩ := h
    have hn : Stop (nx s j) := by rw [nx_eq he]; exact hs
    have h1 := step_none (s := s) hj (sign_stop (by rcases hn with h | h <;> omega))
    have h2 := seq_none h1 (by rw [nxs]; rcases hn with h | h <;> omega)
    have h3 := pth_none h2 (by rw [nxs, nxs]; rcases hn with h | h <;> omega)
    exact ⟨_, h3, by rw [skip_skip, skip_skip, skip_skip, he]⟩
/-- An atom, up to a sign of another kind. -/
theorem step_good {s : ByteArray} {B : Nat → Res Pth} {i : Nat} {p : Pth} {E : Nat} {fit : Bool} (h : Good s (B i) p E fit) (hs : signK (nx s E) = none) : Good s (stepS s B i) p E fit := by
  cases fit with
  | false => exact ⟨_, stp_no h.choose_spec⟩
  | true =>
    obtain ⟨j, hj, he⟩ := h
    exact ⟨_, step_none hj (by rw [nx_eq he]; exact hs), by rw [skip_skip, he]⟩
theorem seq_good {s : ByteArray} {B : Nat → Res Pth} {i : Nat} {p : Pth} {E : Nat} {fit : Bool} (h : Good s (stepS s B i) p E fit) (hs : nx s E ≠ 47) : Good s (seqS s B i) p E fit := by
  cases fit with
  | false => exact ⟨_, sq_no h.choose_spec⟩
  | true =>
    obtain ⟨j, hj, he⟩ := h
    exact ⟨_, seq_none hj (by rw [nx_eq he]; exact hs), by rw [skip_skip, he]⟩
theorem pth_good {s : ByteArray} {B : Nat → Res Pth} {i : Nat} {p : Pth} {E : Nat} {fit : Bool} (h : Good s (seqS s B i) p E fit) (hs : nx s E ≠ 124) : Good s (pathS s B i) p E fit := by
  cases fit with
  | false => exact ⟨_, pth_no h.choose_spec⟩
  | true =>
    obtain ⟨j, hj, he⟩ := h
    exact ⟨_, pth_none hj (by rw [nx_eq he]; exact hs), by rw [skip_skip, he]⟩
theorem sign_good {s : ByteArray} {B : Nat → Res Pth} {i : Nat} {p : Pth} {E1 E : Nat} {fit : Bool} {k : Int} (h : Good s (B i) p E1 fit) (hs : signK (nx s E1) = some k) (he : skip s (skip s E1 + 1) = skip s E) (hs2 : signK (nx s E) = none) : Good s (stepS s B i) (.mk k ⟨#[]⟩ [] [p]) E fit := by
  cases fit with
  | false => exact ⟨_, stp_no h.choose_spec⟩
  | true =>
    obtain ⟨j, hj, hje⟩ := h
    have h1 := step_sign hj (by rw [nx_eq hje]; exact hs) (by rw [hje, nx_eq he]; exact hs2)
    rw [hje] at h1
    exact ⟨_, h1, by rw [skip_skip, he]⟩
theorem two_seq {s : ByteArray} {B : Nat → Res Pth} {i : Nat} {p q : Pth} {E1 E : Nat} {f1 f2 : Bool} (h : Good s (stepS s B i) p E1 f1) (hn : nx s E1 = 47) (h2 : Good s (stepS s B (skip s E1 + 1)) q E f2) (hs : nx s E ≠ 47) : Good s (seqS s B i) (.mk 3 ⟨#[]⟩ [] [p, q]) E (f1 && f2) := by
  cases f1 with
  | false => exact ⟨_, sq_no h.choose_spec⟩
  | true =>
    obtain ⟨j, hj, hje⟩ := h
    cases f2 with
    | false =>
      obtain ⟨a, ha⟩ := h2
      exact ⟨a, seq_two_no hj (by rw [nx_eq hje]; exact hn) (by rw [hje]; exact ha)⟩
    | true =>
      obtain ⟨l, hl, hle⟩ := h2
      exact ⟨_, seq_two hj (by rw [nx_eq hje]; exact hn) (by rw [hje]; exact hl) (by rw [nx_eq hle]; exact hs), by rw [skip_skip, hle]⟩
theorem two_path {s : ByteArray} {B : Nat → Res Pth} {i : Nat} {p q : Pth} {E1 E : Nat} {f1 f2 : Bool} (h : Good s (seqS s B i) p E1 f1) (hn : nx s E1 = 124) (h2 : Good s (seqS s B (skip s E1 + 1)) q E f2) (hs : nx s E ≠ 124) : Good s (pathS s B i) (.mk 4 ⟨#[]⟩ [] [p, q]) E (f1 && f2) := by
  cases f1 with
  | false => exact ⟨_, pth_no h.choose_spec⟩
  | true =>
    obtain ⟨j, hj, hje⟩ := h
    cases f2 with
    | false =>
      obtain ⟨a, ha⟩ := h2
      exact ⟨a, pth_two_no hj (by rw [nx_eq hje]; exact hn) (by rw [hje]; exact ha)⟩
    | true =>
      obtain ⟨l, hl, hle⟩ := h2
      exact ⟨_, pth_two hj (by rw [nx_eq hje]; exact hn) (by rw [hje]; exact hl) (by rw [nx_eq hle]; exact hs), by rw [skip_skip, hle]⟩
theorem back_leaf {s : ByteArray} {i : Nat} (h1 : nx s i ≠ 94) (h2 : nx s i ≠ 40) : ∀ D, backS s D i = leafS s i
  | 0 => by unfold backS; rw [if_neg (by omega)]
  | D + 1 => by unfold backS; rw [if_neg h1, if_neg h2]
theorem texts_at {s : ByteArray} {g : Nat} : ∀ (l acc : List ByteArray) (f j e : Nat), skip s j = e → AtL s e (tailG g l) → l.all iriB = true → l.length < f → ∃ j', textsS s f acc j = .ok (acc ++ l) j' ∧ skip s j' = skip s (e + (tailG g l).length)
  | [], acc, f, j, e, hj, h, _, hf => by
    obtain ⟨f, rfl⟩ : ∃ n, f = n + 1 := ⟨f - 1, by simp at hf; omega⟩
    have hn : nx s j = 41 := nx_at hj h
    unfold tailG at h
    obtain ⟨-, -, h1⟩ := h.cons
    refine ⟨e + 1, ?_, ?_⟩
    · unfold textsS
      rw [if_neg (by rw [hn]; decide), if_pos hn, hj, List.append_nil]
    · rw [gap_skip g (e + 1) h1]
      unfold tailG
      rw [List.length_cons, gap_len, show e + 1 + g = e + (g + 1) by omega]
  | t :: l, acc, f, j, e, hj, h, ha, hf => by
    obtain ⟨f, rfl⟩ : ∃ n, f = n + 1 := ⟨f - 1, by simp at hf; omega⟩
    rw [List.all_cons, Bool.and_eq_true] at ha
    have hn : nx s j = 124 := nx_at hj h
    unfold tailG at h
    obtain ⟨-, -, h1⟩ := h.cons
    obtain ⟨h2, h3⟩ := behind (m := []) h1 (by decide)
    obtain ⟨h4, h5⟩ := iri_at h2 h3 ha.1
    obtain ⟨h6, h7⟩ := h5.app
    rw [gap_len] at h7
    have hb : ∃ b m, tailG g l = b :: m ∧ b ≠ 32 := by
      cases l with
      | nil => exact ⟨41, _, rfl, by decide⟩
      | cons u l => exact ⟨124, _, rfl, by decide⟩
    obtain ⟨b, m, hb, hb2⟩ := hb
    have hk : skip s (e + 1 + g + t.size + 2) = e + 1 + g + t.size + 2 + g := by
      rw [gap_skip g _ h6]
      rw [hb] at h7
      exact skip_nb h7 hb2
    obtain ⟨j', h8, h9⟩ := texts_at l (acc ++ [t]) f _ _ hk h7 ha.2 (by simp at hf; omega)
    refine ⟨j', ?_, ?_⟩
    · unfold textsS
      rw [if_pos hn, hj, h4]
      simp only
      rw [h8, List.append_assoc]; rfl
    · rw [h9]
      congr 1
      conv => rhs; unfold tailG
      simp only [List.length_cons, List.length_append, gap_len, size_list]
      omega
theorem tail_len (g : Nat) : ∀ l : List ByteArray, l.length < (tailG g l).length
  | [] => by unfold tailG; simp
  | t :: l => by
    have := tail_len g l
    unfold tailG
    simp only [List.length_cons, List.length_append]
    omega
theorem leafN_at {s : ByteArray} {g i e : Nat} {ts : List ByteArray} (hi : skip s i = e) (h : AtL s e (33 :: 40 :: (gap g ++ textsG g ts))) (h1 : 1 ≤ ts.length) (ha : ts.all iriB = true) : ∃ j, leafS s i = .ok (.mk 8 ⟨#[]⟩ ts []) j ∧ skip s j = skip s (e + (33 :: 40 :: (gap g ++ textsG g ts)).length) := by
  obtain ⟨t, l, rfl⟩ : ∃ t l, ts = t :: l := by
    cases ts with
    | nil => simp at h1
    | cons t l => exact ⟨t, l, rfl⟩
  rw [List.all_cons, Bool.and_eq_true] at ha
  have hn : nx s i = 33 := nx_at hi h
  obtain ⟨-, -, h2⟩ := h.cons
  obtain ⟨h3, h4, h5⟩ := h2.cons
  unfold textsG at h5
  obtain ⟨h6, h7⟩ := behind (m := []) h5 (by decide)
  obtain ⟨h8, h9⟩ := iri_at h6 h7 ha.1
  obtain ⟨ha1, ha2⟩ := h9.app
  rw [gap_len] at ha2
  have hb : ∃ b m, tailG g l = b :: m ∧ b ≠ 32 := by
    cases l with
    | nil => exact ⟨41, _, rfl, by decide⟩
    | cons u l => exact ⟨124, _, rfl, by decide⟩
  obtain ⟨b, m, hb, hb2⟩ := hb
  have hk : skip s (e + 1 + 1 + g + t.size + 2) = e + 1 + 1 + g + t.size + 2 + g := by
    rw [gap_skip g _ ha1]
    rw [hb] at ha2
    exact skip_nb ha2 hb2
  have hl : l.length < s.size + 1 := by
    have := ha2.1
    have := tail_len g l
    omega
  obtain ⟨j', hj1, hj2⟩ := texts_at l [t] (s.size + 1) _ _ hk ha2 ha.2 hl
  refine ⟨j', ?_, ?_⟩
  · unfold leafS
    rw [if_neg (by rw [hn]; decide), if_pos hn, hi]
    have : notS s (e + 1) = .ok (t :: l) j' := by
      unfold notS
      rw [if_pos ⟨h3, h4⟩, h8]
      simp only
      exact hj1
    rw [this]
  · rw [hj2]
    congr 1
    unfold textsG
    simp only [List.length_cons, List.length_append, gap_len, size_list]
    omega
theorem show_first {g : Nat} : ∀ (p : Pth) (d n : Nat), countP p d = some n → ∃ b l, showG g p = b :: l ∧ b ≠ 32 := by
  intro p
  induction p using Pth.ind with
  | h k t ts ks ih =>
  intro d n h
  obtain ⟨hh, m, hm, rfl⟩ := count_mk h
  obtain ⟨h1, h2, h3, h4⟩ := here_kind hh
  have hin : ∀ (q : Pth) (d a : Nat), q ∈ ks → countP q d = some a → ∃ b l, inG g q (showG g q) = b :: l ∧ b ≠ 32 := fun q d a hq ha => by
    unfold inG
    split
    · exact ih q hq d a ha
    · exact ⟨40, _, rfl, by decide⟩
  unfold showG glueG
  rcases kinds_of h2 with ⟨rfl, hk⟩ | ⟨rfl, hk⟩ | ⟨rfl, hk⟩ | ⟨rfl, hk⟩ | ⟨rfl, hk⟩ | ⟨rfl, hk⟩ | ⟨rfl, hk⟩ | ⟨rfl, hk⟩
  · exact ⟨60, _, rfl, by decide⟩
  · exact ⟨33, _, rfl, by decide⟩
  · exact ⟨94, _, rfl, by decide⟩
  · obtain ⟨q, rfl⟩ := list1 hk
    obtain ⟨b, l, e, hb⟩ := hin q _ _ (by simp) (count_one hm)
    show ∃ b' l', inG g q (showG g q) ++ 42 :: gap g = b' :: l' ∧ b' ≠ 32
    exact ⟨b, _, by rw [e]; rfl, hb⟩
  · obtain ⟨q, rfl⟩ := list1 hk
    obtain ⟨b, l, e, hb⟩ := hin q _ _ (by simp) (count_one hm)
    show ∃ b' l', inG g q (showG g q) ++ 43 :: gap g = b' :: l' ∧ b' ≠ 32
    exact ⟨b, _, by rw [e]; rfl, hb⟩
  · obtain ⟨q, rfl⟩ := list1 hk
    obtain ⟨b, l, e, hb⟩ := hin q _ _ (by simp) (count_one hm)
    show ∃ b' l', inG g q (showG g q) ++ 63 :: gap g = b' :: l' ∧ b' ≠ 32
    exact ⟨b, _, by rw [e]; rfl, hb⟩
  · obtain ⟨q, q2, rfl⟩ := list2 hk
    obtain ⟨a, c, ha, hc, rfl⟩ := count_two hm
    obtain ⟨b, l, e, hb⟩ := hin q _ _ (by simp) ha
    show ∃ b' l', inG g q (showG g q) ++ 47 :: (gap g ++ inG g q2 (showG g q2)) = b' :: l' ∧ b' ≠ 32
    exact ⟨b, _, by rw [e]; rfl, hb⟩
  · obtain ⟨q, q2, rfl⟩ := list2 hk
    obtain ⟨a, c, ha, hc, rfl⟩ := count_two hm
    obtain ⟨b, l, e, hb⟩ := hin q _ _ (by simp) ha
    show ∃ b' l', inG g q (showG g q) ++ 124 :: (gap g ++ inG g q2 (showG g q2)) = b' :: l' ∧ b' ≠ 32
    exact ⟨b, _, by rw [e]; rfl, hb⟩
theorem in_first {g : Nat} {p : Pth} {d n : Nat} (h : countP p d = some n) : ∃ b l, inG g p (showG g p) = b :: l ∧ b ≠ 32 := by
  unfold inG
  split
  · exact show_first p d n h
  · exact ⟨40, _, rfl, by decide⟩
/-- What is read at a path that is written as an atom; as a path, up to a stop. -/
def ReadA (s : ByteArray) (g : Nat) (p : Pth) : Prop := ∀ D i e, skip s i = e → AtL s e (inG g p (showG g p)) → Good s (backS s D i) p (e + (inG g p (showG g p)).length) (fitA p D)
def ReadP (s : ByteArray) (g : Nat) (p : Pth) : Prop := ∀ D i e, skip s i = e → AtL s e (showG g p) → Stop (nx s (e + (showG g p).length)) → Good s (pathS s (backS s D) i) p (e + (showG g p).length) (fitB p D)
theorem leaf_one {s : ByteArray} {g i e : Nat} {t : ByteArray} (hi : skip s i = e) (h : AtL s e (60 :: (t.data.toList ++ 62 :: gap g))) (ht : iriB t = true) (D : Nat) : Good s (backS s D i) (.mk 1 t [] []) (e + (60 :: (t.data.toList ++ 62 :: gap g)).length) true := by
  have hn : nx s i = 60 := nx_at hi h
  obtain ⟨h1, h2⟩ := iri_at hi h ht
  refine ⟨e + t.size + 2, ?_, ?_⟩
  · rw [back_leaf (by rw [hn]; decide) (by rw [hn]; decide)]
    unfold leafS
    rw [if_pos hn, h1]
  · rw [gap_skip g _ h2]
    congr 1
    simp only [List.length_cons, List.length_append, gap_len, size_list]
    omega
theorem read_atom {s : ByteArray} {g : Nat} {p : Pth} {d n : Nat} (hc : countP p d = some n) (hp : p.k ≠ 1) (hP : ReadP s g p) : ReadA s g p := by
  intro D i e hi h
  unfold inG at h ⊢
  rw [if_neg hp] at h ⊢
  have hn : nx s i = 40 := nx_at hi h
  unfold fitA atomF
  rw [if_neg hp]
  cases D with
  | zero =>
    refine ⟨skip s i, ?_⟩
    unfold backS
    rw [if_pos (.inr hn)]
  | succ D =>
    rw [show decide (1 ≤ D + 1) = true by simp, Bool.true_and, Nat.add_sub_cancel]
    obtain ⟨-, -, h1⟩ := h.cons
    obtain ⟨b, l, hb, hb2⟩ := show_first (g := g) p d n hc
    have h1' : AtL s (e + 1) (gap g ++ b :: (l ++ 41 :: gap g)) := by rw [hb] at h1; exact h1
    obtain ⟨h2, h3⟩ := behind (m := []) h1' hb2
    rw [show b :: (l ++ 41 :: gap g) = showG g p ++ 41 :: gap g by rw [hb]; rfl] at h3
    obtain ⟨h4, h5⟩ := h3.app
    have hsk := skip_nb h5 (by decide)
    have hnx : nx s (e + 1 + g + (showG g p).length) = 41 := nx_at hsk h5
    obtain ⟨-, -, h6⟩ := h5.cons
    have hr := hP D (e + 1) (e + 1 + g) h2 h4 (.inr hnx)
    have hback : backS s (D + 1) i = match pathS s (backS s D) (e + 1) with
        | .ok p j => if nx s j = 41 then .ok p (skip s j + 1) else .no 2 (skip s j)
        | .no e a => .no e a := by
      conv => lhs; unfold backS
      rw [if_neg (by rw [hn]; decide), if_pos hn, hi]
      rfl
    cases hf : fitB p D with
    | false =>
      rw [hf] at hr
      obtain ⟨a, ha⟩ := hr
      exact ⟨a, by rw [hback, ha]⟩
    | true =>
      rw [hf] at hr
      obtain ⟨j, hj, hje⟩ := hr
      refine ⟨skip s j + 1, ?_, ?_⟩
      · rw [hback, hj]
        simp only
        rw [if_pos (by rw [nx_eq hje]; exact hnx)]
      · rw [hje, hsk, gap_skip g _ h6]
        congr 1
        simp only [List.length_cons, List.length_append, gap_len]
        omega
theorem stop_sign {c : Nat} (h : Stop c) : signK c = none := sign_stop (by rcases h with h | h <;> omega)
theorem sign_kid {s : ByteArray} {g : Nat} {q : Pth} {x k : Int} {c : UInt8} {D i e : Nat} {d n : Nat} (hq : ReadA s g q) (hi : skip s i = e) (h : AtL s e (inG g q (showG g q) ++ c :: gap g)) (hc : signK c.toNat = some k) (h32 : c ≠ 32)
    (hst : Stop (nx s (e + (inG g q (showG g q) ++ c :: gap g).length))) : Good s (pathS s (backS s D) i) (.mk k ⟨#[]⟩ [] [q]) (e + (inG g q (showG g q) ++ c :: gap g).length) (fitA q D) := by
  obtain ⟨h1, h2⟩ := h.app
  have hsk := skip_nb h2 h32
  have hnx := nx_at hsk h2
  obtain ⟨-, -, h3⟩ := h2.cons
  have hE : skip s (e + (inG g q (showG g q)).length + 1) = skip s (e + (inG g q (showG g q) ++ c :: gap g).length) := by
    rw [gap_skip g _ h3]
    congr 1
    simp only [List.length_cons, List.length_append, gap_len]
    omega
  have a1 := sign_good (hq D i e hi h1) (by rw [hnx]; exact hc) (by rw [hsk]; exact hE) (stop_sign hst)
  have a2 := seq_good a1 (by rcases hst with h | h <;> omega)
  exact pth_good a2 (by rcases hst with h | h <;> omega)
theorem read_both {s : ByteArray} {g : Nat} : ∀ (p : Pth) (d n : Nat), countP p d = some n → ReadA s g p ∧ ReadP s g p := by
  intro p
  induction p using Pth.ind with
  | h k t ts ks ih =>
  intro d n hcp
  obtain ⟨hh, m, hm, rfl⟩ := count_mk hcp
  obtain ⟨h1, h2, h3, h4⟩ := here_kind hh
  suffices hP : ReadP s g (.mk k t ts ks) by
    by_cases hk : k = 1
    · subst hk
      refine ⟨?_, hP⟩
      intro D i e hi h
      rw [if_pos rfl] at h3
      rw [if_neg (by decide)] at h4
      obtain rfl := List.eq_nil_of_length_eq_zero h4
      obtain rfl : ks = [] := List.eq_nil_of_length_eq_zero (by rcases kinds_of h2 with h | h | h | h | h | h | h | h <;> omega)
      exact leaf_one hi h h3 D
    · exact ⟨read_atom hcp hk hP, hP⟩
  intro D i e hi h hst
  unfold fitB fitG
  unfold showG glueG at h hst ⊢
  rcases kinds_of h2 with ⟨rfl, hk⟩ | ⟨rfl, hk⟩ | ⟨rfl, hk⟩ | ⟨rfl, hk⟩ | ⟨rfl, hk⟩ | ⟨rfl, hk⟩ | ⟨rfl, hk⟩ | ⟨rfl, hk⟩
  · rw [if_pos rfl] at h3
    rw [if_neg (by decide)] at h4
    obtain rfl := List.eq_nil_of_length_eq_zero h4
    obtain rfl := List.eq_nil_of_length_eq_zero hk
    exact single (leaf_one hi h h3 D) hst
  · rw [if_pos rfl] at h4
    rw [if_neg (by decide)] at h3
    obtain rfl := empty_list h3
    obtain rfl := List.eq_nil_of_length_eq_zero hk
    have hn : nx s i = 33 := nx_at hi h
    obtain ⟨j, hj, hje⟩ := leafN_at hi h h4.1 h4.2.2
    refine single (fit := true) ⟨j, ?_, hje⟩ hst
    rw [back_leaf (by rw [hn]; decide) (by rw [hn]; decide)]
    exact hj
  · obtain ⟨q, rfl⟩ := list1 hk
    rw [if_neg (by decide)] at h3 h4
    obtain rfl := empty_list h3
    obtain rfl := List.eq_nil_of_length_eq_zero h4
    have hq := (ih q (by simp) _ _ (count_one hm)).1
    obtain ⟨b, l, hb, hb2⟩ := in_first (g := g) (count_one hm)
    have hn : nx s i = 94 := nx_at hi h
    obtain ⟨-, -, h5⟩ := h.cons
    have h5' : AtL s (e + 1) (gap g ++ b :: l) := by rw [← hb]; exact h5
    obtain ⟨h6, h7⟩ := behind (m := []) h5' hb2
    rw [← hb] at h7
    refine single ?_ hst
    show Good s (backS s D i) _ _ (decide (1 ≤ D) && fitA q (D - 1))
    cases D with
    | zero =>
      refine ⟨skip s i, ?_⟩
      unfold backS
      rw [if_pos (.inl hn)]
    | succ D =>
      rw [show decide (1 ≤ D + 1) = true by simp, Bool.true_and, Nat.add_sub_cancel]
      have hr := hq D (e + 1) (e + 1 + g) h6 h7
      have hback : backS s (D + 1) i = match backS s D (e + 1) with
          | .ok p j => .ok (.mk 2 ⟨#[]⟩ [] [p]) j
          | .no e a => .no e a := by
        conv => lhs; unfold backS
        rw [if_pos hn, hi]
        rfl
      cases hf : fitA q D with
      | false =>
        rw [hf] at hr
        obtain ⟨a, ha⟩ := hr
        exact ⟨a, by rw [hback, ha]⟩
      | true =>
        rw [hf] at hr
        obtain ⟨j, hj, hje⟩ := hr
        refine ⟨j, by rw [hback, hj], ?_⟩
        rw [hje]
        congr 1
        show _ = e + (94 :: (gap g ++ inG g q (showG g q))).length
        simp only [List.length_cons, List.length_append, gap_len]
        omega
  · obtain ⟨q, rfl⟩ := list1 hk
    rw [if_neg (by decide)] at h3 h4
    obtain rfl := empty_list h3
    obtain rfl := List.eq_nil_of_length_eq_zero h4
    have hq := (ih q (by simp) _ _ (count_one hm)).1
    show Good s _ _ _ (fitA q D && true)
    rw [Bool.and_true]
    exact sign_kid (x := 0) (d := 0) (n := 0) (c := 42) hq hi h rfl (by decide) hst
  · obtain ⟨q, rfl⟩ := list1 hk
    rw [if_neg (by decide)] at h3 h4
    obtain rfl := empty_list h3
    obtain rfl := List.eq_nil_of_length_eq_zero h4
    have hq := (ih q (by simp) _ _ (count_one hm)).1
    show Good s _ _ _ (fitA q D && true)
    rw [Bool.and_true]
    exact sign_kid (x := 0) (d := 0) (n := 0) (c := 43) hq hi h rfl (by decide) hst
  · obtain ⟨q, rfl⟩ := list1 hk
    rw [if_neg (by decide)] at h3 h4
    obtain rfl := empty_list h3
    obtain rfl := List.eq_nil_of_length_eq_zero h4
    have hq := (ih q (by simp) _ _ (count_one hm)).1
    show Good s _ _ _ (fitA q D && true)
    rw [Bool.and_true]
    exact sign_kid (x := 0) (d := 0) (n := 0) (c := 63) hq hi h rfl (by decide) hst
  · obtain ⟨q, r, rfl⟩ := list2 hk
    rw [if_neg (by decide)] at h3 h4
    obtain rfl := empty_list h3
    obtain rfl := List.eq_nil_of_length_eq_zero h4
    obtain ⟨a, b, ha, hb, rfl⟩ := count_two hm
    have hq := (ih q (by simp) _ _ ha).1
    have hr := (ih r (by simp) _ _ hb).1
    have h' : AtL s e (inG g q (showG g q) ++ 47 :: (gap g ++ inG g r (showG g r))) := h
    have hst' : Stop (nx s (e + (inG g q (showG g q) ++ 47 :: (gap g ++ inG g r (showG g r))).length)) := hst
    show Good s (pathS s (backS s D) i) (.mk 3 ⟨#[]⟩ [] [q, r]) (e + (inG g q (showG g q) ++ 47 :: (gap g ++ inG g r (showG g r))).length) (fitA q D && fitA r D)
    clear h hst
    obtain ⟨h5, h6⟩ := h'.app
    have hsk := skip_nb h6 (by decide)
    have hnx : nx s (e + (inG g q (showG g q)).length) = 47 := nx_at hsk h6
    obtain ⟨-, -, h7⟩ := h6.cons
    obtain ⟨b0, l0, hb0, hb2⟩ := in_first (g := g) hb
    rw [hb0] at h7
    obtain ⟨h8, h9⟩ := behind (m := []) h7 hb2
    rw [← hb0] at h9
    have hE : e + (inG g q (showG g q)).length + 1 + g + (inG g r (showG g r)).length = e + (inG g q (showG g q) ++ 47 :: (gap g ++ inG g r (showG g r))).length := by
      simp only [List.length_cons, List.length_append, gap_len]
      omega
    have g1 := hr D _ _ h8 h9
    rw [hE] at g1
    have g2 := step_good g1 (stop_sign hst')
    have g3 := step_good (hq D i e hi h5) (by rw [hnx]; rfl)
    have g4 := two_seq g3 hnx (by rw [hsk]; exact g2) (by rcases hst' with h | h <;> omega)
    exact pth_good g4 (by rcases hst' with h | h <;> omega)
  · obtain ⟨q, r, rfl⟩ := list2 hk
    rw [if_neg (by decide)] at h3 h4
    obtain rfl := empty_list h3
    obtain rfl := List.eq_nil_of_length_eq_zero h4
    obtain ⟨a, b, ha, hb, rfl⟩ := count_two hm
    have hq := (ih q (by simp) _ _ ha).1
    have hr := (ih r (by simp) _ _ hb).1
    have h' : AtL s e (inG g q (showG g q) ++ 124 :: (gap g ++ inG g r (showG g r))) := h
    have hst' : Stop (nx s (e + (inG g q (showG g q) ++ 124 :: (gap g ++ inG g r (showG g r))).length)) := hst
    show Good s (pathS s (backS s D) i) (.mk 4 ⟨#[]⟩ [] [q, r]) (e + (inG g q (showG g q) ++ 124 :: (gap g ++ inG g r (showG g r))).length) (fitA q D && fitA r D)
    clear h hst
    obtain ⟨h5, h6⟩ := h'.app
    have hsk := skip_nb h6 (by decide)
    have hnx : nx s (e + (inG g q (showG g q)).length) = 124 := nx_at hsk h6
    obtain ⟨-, -, h7⟩ := h6.cons
    obtain ⟨b0, l0, hb0, hb2⟩ := in_first (g := g) hb
    rw [hb0] at h7
    obtain ⟨h8, h9⟩ := behind (m := []) h7 hb2
    rw [← hb0] at h9
    have hE : e + (inG g q (showG g q)).length + 1 + g + (inG g r (showG g r)).length = e + (inG g q (showG g q) ++ 124 :: (gap g ++ inG g r (showG g r))).length := by
      simp only [List.length_cons, List.length_append, gap_len]
      omega
    have g1 := hr D _ _ h8 h9
    rw [hE] at g1
    have g2 := seq_good (step_good g1 (stop_sign hst')) (by rcases hst' with h | h <;> omega)
    have g3 := seq_good (step_good (hq D i e hi h5) (by rw [hnx]; rfl)) (by rw [hnx]; decide)
    exact two_path g3 hnx (by rw [hsk]; exact g2) (by rcases hst' with h | h <;> omega)

/-! ### a whole text -/
/-- A text that is a path with blanks: as it was, or too deep. -/
theorem read_text {s : ByteArray} {g i0 : Nat} {p : Pth} {d n : Nat} (hc : countP p d = some n) (h0 : skip s 0 = i0) (h : AtL s i0 (showG g p)) (hE : i0 + (showG g p).length = s.size) : Good s (pathS s (backS s 5) 0) p s.size (fitB p 5) := by
  have hs : skip s s.size = s.size := skip_stop (by omega)
  have := (read_both p d n hc).2 5 0 i0 h0 h (by rw [hE]; left; unfold nx; rw [hs, if_neg (by omega)])
  rwa [hE] at this
theorem readS_good {s : ByteArray} {p : Pth} {fit : Bool} (hs : ¬ 600 < s.size) (h : Good s (pathS s (backS s 5) 0) p s.size fit) : if fit = true then readS s = (p, s.size, 0) else ∃ a, readS s = (noP, a, 3) := by
  have hsz : skip s s.size = s.size := skip_stop (by omega)
  cases fit with
  | false =>
    obtain ⟨a, ha⟩ := h
    rw [if_neg (by decide)]
    refine ⟨a, ?_⟩
    unfold readS
    rw [if_neg hs, ha]
  | true =>
    obtain ⟨j, hj, he⟩ := h
    rw [if_pos rfl]
    unfold readS
    rw [if_neg hs, hj]
    simp only
    rw [he, hsz, if_neg (by omega)]

/-! ### no blanks -/
theorem join_tail : ∀ (t : ByteArray) (l : List ByteArray), Lib.join ((t :: l).map (·.data.toList)) [62, 124, 60] ++ [62, 41] = t.data.toList ++ 62 :: tailG 0 l
  | t, [] => by simp [Lib.join, tailG, gap]
  | t, u :: l => by
    have ih := join_tail u l
    have e : ∀ x y : List UInt8, ∀ r : List (List UInt8), Lib.join (x :: y :: r) [62, 124, 60] = x ++ ([62, 124, 60] ++ Lib.join (y :: r) [62, 124, 60]) := fun x y r => by simp [Lib.join, List.intercalate]
    rw [List.map_cons, List.map_cons, e]
    rw [List.map_cons] at ih
    rw [List.append_assoc, List.append_assoc, ih]
    simp [tailG, gap]
theorem show_zero : ∀ (p : Pth) (d n : Nat), countP p d = some n → showG 0 p = showP p := by
  intro p
  induction p using Pth.ind with
  | h k t ts ks ih =>
  intro d n hcp
  obtain ⟨hh, m, hm, rfl⟩ := count_mk hcp
  obtain ⟨h1, h2, h3, h4⟩ := here_kind hh
  have hin : ∀ (q : Pth) (d a : Nat), q ∈ ks → countP q d = some a → inG 0 q (showG 0 q) = inB q (showP q) := fun q d a hq ha => by
    unfold inG inB
    rw [ih q hq d a ha]
    rfl
  unfold showG glueG showP glueL
  rcases kinds_of h2 with ⟨rfl, hk⟩ | ⟨rfl, hk⟩ | ⟨rfl, hk⟩ | ⟨rfl, hk⟩ | ⟨rfl, hk⟩ | ⟨rfl, hk⟩ | ⟨rfl, hk⟩ | ⟨rfl, hk⟩
  · rfl
  · rw [if_pos rfl] at h4
    obtain ⟨t0, l, rfl⟩ : ∃ t l, ts = t :: l := by
      cases ts with
      | nil => have := h4.1; simp at this
      | cons t l => exact ⟨t, l, rfl⟩
    show 33 :: 40 :: ([] ++ textsG 0 (t0 :: l)) = 33 :: 40 :: 60 :: (Lib.join ((t0 :: l).map (·.data.toList)) [62, 124, 60] ++ [62, 41])
    rw [join_tail]
    rfl
  all_goals first
    | (obtain ⟨q, rfl⟩ := list1 hk
       have e := hin q _ _ (by simp) (count_one hm)
       simp [showsG, showsL, e, gap]
       done)
    | (obtain ⟨q, q2, rfl⟩ := list2 hk
       obtain ⟨a, c, ha, hc, rfl⟩ := count_two hm
       have e := hin q _ _ (by simp) ha
       have e2 := hin q2 _ _ (by simp) hc
       simp [showsG, showsL, e, e2, gap]
       done)
/-- A path that may be, as a text, is not long. -/
theorem may_shown {p : Pth} (h : isP p = true) : ∃ c0, countP p 0 = some c0 ∧ c0 ≤ 30 ∧ (showB p).size ≤ 9000 := by
  unfold isP at h
  split at h
  · cases h
  · rename_i n hn
    have h30 : n ≤ 30 := by simpa using h
    refine ⟨n, hn, h30, ?_⟩
    have := show_len p 0 n hn
    unfold showB
    rw [ba_size]
    omega
theorem show_good {p : Pth} (h : isP p = true) : Good (showB p) (pathS (showB p) (backS (showB p) 5) 0) p (showB p).size (fitB p 5) := by
  obtain ⟨c0, hc, -, -⟩ := may_shown h
  have hz := show_zero p 0 c0 hc
  obtain ⟨b, l, hb, hb2⟩ := show_first (g := 0) p 0 c0 hc
  have ha := AtL.all (showB p)
  have hd : (showB p).data.toList = showG 0 p := by rw [hz]; rfl
  rw [hd] at ha
  refine read_text (g := 0) hc ?_ ha (by rw [Nat.zero_add, ← hd, size_list])
  rw [hb] at ha
  exact skip_nb ha hb2
end Go.Proofs.YtbaegfjoionojaaDoor.Qy
