/- Chapter 13, plain: what the places of a laid path take is what its words are. No program in sight. -/
import Derived.Lib.SlicesS
set_option linter.unusedVariables false
set_option linter.unusedSimpArgs false
namespace Go.Proofs.YtbaegfjoionojaaDoor.Qa
open Go

/-- What a place is come to along. -/
structure Alng where
  ts : List ByteArray
  neg : Bool
  back : Bool
/-- A path whose Backs are laid on its steps. -/
inductive Lx where
  | leaf (x : Alng)
  | seq (r s : Lx)
  | alt (r s : Lx)
  | star (r : Lx)
  | plus (r : Lx)
  | maybe (r : Lx)
/-- A step of a word: its text; is it back? -/
abbrev Sg := ByteArray × Bool
def Alng.hit (x : Alng) (a : Sg) : Bool := decide (a.2 = x.back) && (Go.Lib.containsS x.ts a.1 != x.neg)
def Lx.lv : Lx → List Alng
  | .leaf x => [x]
  | .seq r s => r.lv ++ s.lv
  | .alt r s => r.lv ++ s.lv
  | .star r => r.lv
  | .plus r => r.lv
  | .maybe r => r.lv
def Lx.n (e : Lx) : Nat := e.lv.length
def Lx.nl : Lx → Bool
  | .leaf _ => false
  | .seq r s => r.nl && s.nl
  | .alt r s => r.nl || s.nl
  | .star _ => true
  | .plus r => r.nl
  | .maybe _ => true
def Lx.fi : Lx → Nat → List Nat
  | .leaf _, k => [k + 1]
  | .seq r s, k => if r.nl = true then r.fi k ++ s.fi (k + r.n) else r.fi k
  | .alt r s, k => r.fi k ++ s.fi (k + r.n)
  | .star r, k => r.fi k
  | .plus r, k => r.fi k
  | .maybe r, k => r.fi k
def Lx.la : Lx → Nat → List Nat
  | .leaf _, k => [k + 1]
  | .seq r s, k => if s.nl = true then r.la k ++ s.la (k + r.n) else s.la (k + r.n)
  | .alt r s, k => r.la k ++ s.la (k + r.n)
  | .star r, k => r.la k
  | .plus r, k => r.la k
  | .maybe r, k => r.la k
/-- May a place follow another one? -/
def Lx.fo : Lx → Nat → Nat → Nat → Prop
  | .leaf _, _, _, _ => False
  | .seq r s, k, n, m => r.fo k n m ∨ s.fo (k + r.n) n m ∨ (n ∈ r.la k ∧ m ∈ s.fi (k + r.n))
  | .alt r s, k, n, m => r.fo k n m ∨ s.fo (k + r.n) n m
  | .star r, k, n, m => r.fo k n m ∨ (n ∈ r.la k ∧ m ∈ r.fi k)
  | .plus r, k, n, m => r.fo k n m ∨ (n ∈ r.la k ∧ m ∈ r.fi k)
  | .maybe r, k, n, m => r.fo k n m
inductive Star {α : Type} (P : List α → Prop) : List α → Prop where
  | nil : Star P []
  | cons {u v : List α} : P u → Star P v → Star P (u ++ v)
/-- The words. -/
def Lx.L : Lx → List Sg → Prop
  | .leaf x, w => ∃ a, w = [a] ∧ x.hit a = true
  | .seq r s, w => ∃ u v, w = u ++ v ∧ r.L u ∧ s.L v
  | .alt r s, w => r.L w ∨ s.L w
  | .star r, w => Star r.L w
  | .plus r, w => ∃ u v, w = u ++ v ∧ r.L u ∧ Star r.L v
  | .maybe r, w => w = [] ∨ r.L w
section
variable {α : Type} {hit : Nat → α → Prop}
def Chain (hit : Nat → α → Prop) (R : Nat → Nat → Prop) : Nat → List α → Nat → Prop
  | n, [], m => n = m
  | n, a :: w, m => ∃ n', R n n' ∧ hit n' a ∧ Chain hit R n' w m
/-- A word that is taken from some first place to some last one. -/
def Acc (hit : Nat → α → Prop) (R : Nat → Nat → Prop) (F L : List Nat) : List α → Prop
  | [] => False
  | a :: w => ∃ n, n ∈ F ∧ hit n a ∧ ∃ m, m ∈ L ∧ Chain hit R n w m
theorem Chain.mono {R R' : Nat → Nat → Prop} (h : ∀ n m, R n m → R' n m) : ∀ {w : List α} {n m : Nat}, Chain hit R n w m → Chain hit R' n w m
  | [], _, _, hc => hc
  | _ :: _, _, _, ⟨n', h1, h2, h3⟩ => ⟨n', h _ _ h1, h2, Chain.mono h h3⟩
theorem Acc.mono {R R' : Nat → Nat → Prop} {F F' L L' : List Nat} (h : ∀ n m, R n m → R' n m) (hF : ∀ n, n ∈ F → n ∈ F') (hL : ∀ n, n ∈ L → n ∈ L') : ∀ {w : List α}, Acc hit R F L w → Acc hit R' F' L' w
  | [], hc => hc.elim
  | _ :: _, ⟨n, h1, h2, m, h3, h4⟩ => ⟨n, hF _ h1, h2, m, hL _ h3, h4.mono h⟩
theorem Chain.append {R : Nat → Nat → Prop} : ∀ {u v : List α} {n m l : Nat}, Chain hit R n u m → Chain hit R m v l → Chain hit R n (u ++ v) l
  | [], _, _, _, _, h, k => by
    obtain rfl : _ = _ := h
    exact k
  | _ :: _, _, _, _, _, ⟨n', h1, h2, h3⟩, k => ⟨n', h1, h2, Chain.append h3 k⟩
/-- Behind a last place a first one of what follows. -/
theorem Acc.append {R : Nat → Nat → Prop} {F L F' L' : List Nat} (hR : ∀ n m, n ∈ L → m ∈ F' → R n m) : ∀ {u v : List α}, Acc hit R F L u → Acc hit R F' L' v → Acc hit R F L' (u ++ v)
  | [], _, h, _ => h.elim
  | _ :: _, [], _, k => k.elim
  | _ :: u, b :: v, ⟨n, h1, h2, m, h3, h4⟩, ⟨n', k1, k2, m', k3, k4⟩ => ⟨n, h1, h2, m', k3, h4.append (v := b :: v) ⟨n', hR _ _ h3 k1, k2, k4⟩⟩
theorem Chain.inv {R : Nat → Nat → Prop} {I : Nat → Prop} (h : ∀ n m, I n → R n m → I m) : ∀ {w : List α} {n m : Nat}, I n → Chain hit R n w m → I m
  | [], _, _, hi, hc => by
    obtain rfl : _ = _ := hc
    exact hi
  | _ :: _, _, _, hi, ⟨n', h1, _, h3⟩ => Chain.inv h (h _ _ hi h1) h3
theorem Chain.only {R R' : Nat → Nat → Prop} {I : Nat → Prop} (h : ∀ n m, I n → R n m → R' n m ∧ I m) : ∀ {w : List α} {n m : Nat}, I n → Chain hit R n w m → Chain hit R' n w m
  | [], _, _, _, hc => hc
  | _ :: _, _, _, hi, ⟨n', h1, h2, h3⟩ => ⟨n', (h _ _ hi h1).1, h2, Chain.only h (h _ _ hi h1).2 h3⟩
/-- A chain whose steps are of two kinds is one of the first kind, or one of it, and then a taken word. -/
theorem Chain.split {R R' : Nat → Nat → Prop} {L F G : List Nat} (h : ∀ n m, R n m → R' n m ∨ (n ∈ L ∧ m ∈ F)) : ∀ {w : List α} {n m : Nat}, m ∈ G → Chain hit R n w m → Chain hit R' n w m ∨ ∃ u v l, w = u ++ v ∧ l ∈ L ∧ Chain hit R' n u l ∧ Acc hit R F G v
  | [], _, _, _, hc => Or.inl hc
  | a :: w, n, m, hm, ⟨n', h1, h2, h3⟩ => by
    rcases h _ _ h1 with h4 | ⟨h4, h5⟩
    · rcases Chain.split h hm h3 with k | ⟨u, v, l, rfl, k1, k2, k3⟩
      · exact Or.inl ⟨n', h4, h2, k⟩
      · exact Or.inr ⟨a :: u, v, l, rfl, k1, ⟨n', h4, h2, k2⟩, k3⟩
    · exact Or.inr ⟨[], a :: w, n, rfl, h4, rfl, n', h5, h2, m, hm, h3⟩
end
def In (k n : Nat) (x : Nat) : Prop := k < x ∧ x ≤ k + n
theorem Lx.pos : ∀ e : Lx, 0 < e.n
  | .leaf _ => Nat.one_pos
  | .seq r s => by have := r.pos; simp only [Lx.n, Lx.lv, List.length_append] at *; omega
  | .alt r s => by have := r.pos; simp only [Lx.n, Lx.lv, List.length_append] at *; omega
  | .star r => r.pos
  | .plus r => r.pos
  | .maybe r => r.pos
theorem Lx.n_seq (r s : Lx) : (Lx.seq r s).n = r.n + s.n := by simp [Lx.n, Lx.lv]
theorem Lx.n_alt (r s : Lx) : (Lx.alt r s).n = r.n + s.n := by simp [Lx.n, Lx.lv]
theorem Lx.n_star (r : Lx) : (Lx.star r).n = r.n := rfl
theorem Lx.n_plus (r : Lx) : (Lx.plus r).n = r.n := rfl
theorem Lx.n_maybe (r : Lx) : (Lx.maybe r).n = r.n := rfl
theorem Lx.fi_in : ∀ (e : Lx) (k x : Nat), x ∈ e.fi k → In k e.n x
  | .leaf _, k, x, h => by
    simp [Lx.fi] at h; subst h; exact ⟨by omega, by show k + 1 ≤ k + 1; omega⟩
  | .seq r s, k, x, h => by
    rw [Lx.n_seq]
    have h1 := r.fi_in k x
    have h2 := s.fi_in (k + r.n) x
    unfold In at *
    unfold Lx.fi at h
    split at h
    · rcases List.mem_append.1 h with h | h
      · have := h1 h; omega
      · have := h2 h; omega
    · have := h1 h; omega
  | .alt r s, k, x, h => by
    rw [Lx.n_alt]
    have h1 := r.fi_in k x
    have h2 := s.fi_in (k + r.n) x
    unfold In at *
    unfold Lx.fi at h
    rcases List.mem_append.1 h with h | h
    · have := h1 h; omega
    · have := h2 h; omega
  | .star r, k, x, h => r.fi_in k x h
  | .plus r, k, x, h => r.fi_in k x h
  | .maybe r, k, x, h => r.fi_in k x h
theorem Lx.la_in : ∀ (e : Lx) (k x : Nat), x ∈ e.la k → In k e.n x
  | .leaf _, k, x, h => by
    simp [Lx.la] at h; subst h; exact ⟨by omega, by show k + 1 ≤ k + 1; omega⟩
  | .seq r s, k, x, h => by
    rw [Lx.n_seq]
    have h1 := r.la_in k x
    have h2 := s.la_in (k + r.n) x
    unfold In at *
    unfold Lx.la at h
    split at h
    · rcases List.mem_append.1 h with h | h
      · have := h1 h; omega
      · have := h2 h; omega
    · have := h2 h; omega
  | .alt r s, k, x, h => by
    rw [Lx.n_alt]
    have h1 := r.la_in k x
    have h2 := s.la_in (k + r.n) x
    unfold In at *
    unfold Lx.la at h
    rcases List.mem_append.1 h with h | h
    · have := h1 h; omega
    · have := h2 h; omega
  | .star r, k, x, h => r.la_in k x h
  | .plus r, k, x, h => r.la_in k x h
  | .maybe r, k, x, h => r.la_in k x h
theorem Lx.fo_in : ∀ (e : Lx) (k n m : Nat), e.fo k n m → In k e.n n ∧ In k e.n m
  | .leaf _, k, n, m, h => h.elim
  | .seq r s, k, n, m, h => by
    rw [Lx.n_seq]
    have h1 := r.fo_in k n m
    have h2 := s.fo_in (k + r.n) n m
    have h3 := r.la_in k n
    have h4 := s.fi_in (k + r.n) m
    unfold In at *
    rcases h with h | h | ⟨h, h'⟩
    · have := h1 h; omega
    · have := h2 h; omega
    · have := h3 h; have := h4 h'; omega
  | .alt r s, k, n, m, h => by
    rw [Lx.n_alt]
    have h1 := r.fo_in k n m
    have h2 := s.fo_in (k + r.n) n m
    unfold In at *
    rcases h with h | h
    · have := h1 h; omega
    · have := h2 h; omega
  | .star r, k, n, m, h => h.elim (r.fo_in k n m) fun h => ⟨r.la_in k n h.1, r.fi_in k m h.2⟩
  | .plus r, k, n, m, h => h.elim (r.fo_in k n m) fun h => ⟨r.la_in k n h.1, r.fi_in k m h.2⟩
  | .maybe r, k, n, m, h => r.fo_in k n m h
/-- The places of e, from k on, are hit as its leaves are. -/
def HitAt (hit : Nat → Sg → Prop) (e : Lx) (k : Nat) : Prop := ∀ (i : Nat) x, e.lv[i]? = some x → ∀ a, hit (k + i + 1) a ↔ x.hit a = true
theorem HitAt.left {hit : Nat → Sg → Prop} {r s : Lx} {k : Nat} {l : List Alng} (hl : l = r.lv ++ s.lv) (h : ∀ (i : Nat) x, l[i]? = some x → ∀ a, hit (k + i + 1) a ↔ x.hit a = true) : HitAt hit r k ∧ HitAt hit s (k + r.n) := by
  subst hl
  refine ⟨fun i x hx => h i x ?_, fun i x hx a => ?_⟩
  · rw [List.getElem?_append_left (List.getElem?_eq_some_iff.1 hx).1]; exact hx
  · have := h (r.n + i) x (by
      rw [List.getElem?_append_right (by show r.n ≤ _; omega)]
      rw [show r.n + i - r.lv.length = i by show r.n + i - r.n = i; omega]; exact hx) a
    rwa [show k + (r.n + i) + 1 = k + r.n + i + 1 by omega] at this
theorem acc_star {hit : Nat → Sg → Prop} {R R' : Nat → Nat → Prop} {F L : List Nat} {P : List Sg → Prop} (hP : ∀ w, P w → w = [] ∨ Acc hit R' F L w) (hR : ∀ n m, R n m ↔ R' n m ∨ (n ∈ L ∧ m ∈ F)) {w : List Sg} (h : Star P w) : w = [] ∨ Acc hit R F L w := by
  induction h with
  | nil => exact Or.inl rfl
  | cons hu hv ih =>
    rename_i u v
    have h1 : u = [] ∨ Acc hit R F L u := (hP _ hu).imp_right fun h => h.mono (fun n m h => (hR n m).2 (Or.inl h)) (fun _ h => h) (fun _ h => h)
    rcases h1 with rfl | h1
    · exact ih
    · rcases ih with rfl | h2
      · rw [List.append_nil]; exact Or.inr h1
      · exact Or.inr (h1.append (fun n m hn hm => (hR n m).2 (Or.inr ⟨hn, hm⟩)) h2)
theorem star_of_acc {hit : Nat → Sg → Prop} {R R' : Nat → Nat → Prop} {F L : List Nat} {P : List Sg → Prop} (hP : ∀ w, Acc hit R' F L w → P w) (hR : ∀ n m, R n m ↔ R' n m ∨ (n ∈ L ∧ m ∈ F)) : ∀ (N : Nat) (w : List Sg), w.length ≤ N → Acc hit R F L w → ∃ u v, w = u ++ v ∧ P u ∧ Star P v
  | 0, [], _, h => h.elim
  | 0, _ :: _, hl, _ => by simp at hl
  | N + 1, [], _, h => h.elim
  | N + 1, a :: w, hl, ⟨n, h1, h2, m, h3, h4⟩ => by
    rcases Chain.split (R' := R') (L := L) (F := F) (fun n m h => (hR n m).1 h) h3 h4 with k | ⟨u, v, l, rfl, k1, k2, k3⟩
    · exact ⟨a :: w, [], by simp, hP _ ⟨n, h1, h2, m, h3, k⟩, .nil⟩
    · obtain ⟨u', v', rfl, p1, p2⟩ := star_of_acc hP hR N v (by simp at hl; omega) k3
      exact ⟨a :: u, u' ++ v', rfl, hP _ ⟨n, h1, h2, l, k1, k2⟩, .cons p1 p2⟩
/-- What the places of a path take is what its words are. -/
theorem Lx.words : ∀ (e : Lx) (k : Nat) {hit : Nat → Sg → Prop}, HitAt hit e k → ∀ w, e.L w ↔ (w = [] ∧ e.nl = true) ∨ Acc hit (e.fo k) (e.fi k) (e.la k) w
  | .leaf x, k, hit, hh, w => by
    have h1 := hh 0 x rfl
    constructor
    · rintro ⟨a, rfl, h⟩
      exact Or.inr ⟨k + 1, by simp [Lx.fi], (h1 a).2 h, k + 1, by simp [Lx.la], rfl⟩
    · rintro (⟨_, h⟩ | h)
      · cases h
      · match w, h with
        | a :: w, ⟨n, hn, ha, m, hm, hc⟩ =>
          simp [Lx.fi] at hn
          subst hn
          match w, hc with
          | [], _ => exact ⟨a, rfl, (h1 a).1 ha⟩
          | b :: v, ⟨n', hf, _⟩ => exact hf.elim
  | .seq r s, k, hit, hh, w => by
    obtain ⟨hr, hs⟩ := HitAt.left rfl hh
    have ir := r.words k hr
    have is := s.words (k + r.n) hs
    have mr : ∀ n m, r.fo k n m → (Lx.seq r s).fo k n m := fun n m h => Or.inl h
    have ms : ∀ n m, s.fo (k + r.n) n m → (Lx.seq r s).fo k n m := fun n m h => Or.inr (Or.inl h)
    have fr : ∀ n, n ∈ r.fi k → n ∈ (Lx.seq r s).fi k := fun n h => by unfold Lx.fi; split; {exact List.mem_append_left _ h}; exact h
    have ls : ∀ n, n ∈ s.la (k + r.n) → n ∈ (Lx.seq r s).la k := fun n h => by unfold Lx.la; split; {exact List.mem_append_right _ h}; exact h
    have stays : ∀ n m, In (k + r.n) s.n n → (Lx.seq r s).fo k n m → s.fo (k + r.n) n m ∧ In (k + r.n) s.n m := fun n m hi h => by
      rcases h with h | h | ⟨h, _⟩
      · have := r.fo_in k n m h; unfold In at *; omega
      · exact ⟨h, (s.fo_in _ n m h).2⟩
      · have := r.la_in k n h; unfold In at *; omega
    have low : ∀ n, In k r.n n → n ∉ s.la (k + r.n) ∧ n ∉ s.fi (k + r.n) := fun n hi => ⟨fun h => by have := s.la_in _ n h; unfold In at *; omega, fun h => by have := s.fi_in _ n h; unfold In at *; omega⟩
    constructor
    · rintro ⟨u, v, rfl, hu, hv⟩
      rcases (ir u).1 hu with ⟨rfl, h1⟩ | h1
      · rcases (is v).1 hv with ⟨rfl, h2⟩ | h2
        · exact Or.inl ⟨rfl, by simp [Lx.nl, h1, h2]⟩
        · exact Or.inr (h2.mono ms (fun n h => by unfold Lx.fi; rw [if_pos h1]; exact List.mem_append_right _ h) ls)
      · rcases (is v).1 hv with ⟨rfl, h2⟩ | h2
        · rw [List.append_nil]
          exact Or.inr (h1.mono mr fr (fun n h => by unfold Lx.la; rw [if_pos h2]; exact List.mem_append_left _ h))
        · exact Or.inr ((h1.mono mr fr (fun _ h => h)).append (fun n m hn hm => Or.inr (Or.inr ⟨hn, hm⟩)) (h2.mono ms (fun _ h => h) ls))
    · rintro (⟨rfl, h⟩ | h)
      · simp [Lx.nl] at h
        exact ⟨[], [], rfl, (ir []).2 (Or.inl ⟨rfl, h.1⟩), (is []).2 (Or.inl ⟨rfl, h.2⟩)⟩
      · have insd : ∀ v : List Sg, Acc hit ((Lx.seq r s).fo k) (s.fi (k + r.n)) ((Lx.seq r s).la k) v → s.L v := by
          intro v hv
          match v, hv with
          | a :: v, ⟨n, hn, ha, m, hm, hc⟩ =>
            have hi := s.fi_in _ n hn
            have hc2 := Chain.only stays hi hc
            have hmi : In (k + r.n) s.n m := Chain.inv (fun n m hi h => (stays n m hi h).2) hi hc
            refine (is _).2 (Or.inr ⟨n, hn, ha, m, ?_, hc2⟩)
            unfold Lx.la at hm
            split at hm
            · rcases List.mem_append.1 hm with h | h
              · have := r.la_in k m h; unfold In at *; omega
              · exact h
            · exact hm
        match w, h with
        | a :: w, ⟨n, hn, ha, m, hm, hc⟩ =>
          have hcase : n ∈ r.fi k ∨ (r.nl = true ∧ n ∈ s.fi (k + r.n)) := by
            unfold Lx.fi at hn
            split at hn
            · rename_i hz
              exact (List.mem_append.1 hn).imp_right fun h => ⟨hz, h⟩
            · exact Or.inl hn
          rcases hcase with hn | ⟨hz, hn⟩
          · rcases Chain.split (R' := fun x y => r.fo k x y ∨ s.fo (k + r.n) x y) (L := r.la k) (F := s.fi (k + r.n)) (G := (Lx.seq r s).la k) (fun x y h => h.elim (fun h => Or.inl (Or.inl h)) (fun h => h.elim (fun h => Or.inl (Or.inr h)) Or.inr)) hm hc with h | ⟨u, v, l, rfl, h1, h2, h3⟩
            · have st : ∀ x y, In k r.n x → (r.fo k x y ∨ s.fo (k + r.n) x y) → r.fo k x y ∧ In k r.n y := fun x y hi h => by
                rcases h with h | h
                · exact ⟨h, (r.fo_in k x y h).2⟩
                · have := s.fo_in _ x y h; unfold In at *; omega
              have hi := r.fi_in k n hn
              have h4 := Chain.only st hi h
              have hmi : In k r.n m := Chain.inv (fun x y hi h => (st x y hi h).2) hi h
              unfold Lx.la at hm
              split at hm
              · rename_i hz
                rcases List.mem_append.1 hm with h | h
                · exact ⟨a :: w, [], by simp, (ir _).2 (Or.inr ⟨n, hn, ha, m, h, h4⟩), (is []).2 (Or.inl ⟨rfl, hz⟩)⟩
                · exact absurd h (low m hmi).1
              · exact absurd hm (low m hmi).1
            · have st : ∀ x y, In k r.n x → (r.fo k x y ∨ s.fo (k + r.n) x y) → r.fo k x y ∧ In k r.n y := fun x y hi h => by
                rcases h with h | h
                · exact ⟨h, (r.fo_in k x y h).2⟩
                · have := s.fo_in _ x y h; unfold In at *; omega
              exact ⟨a :: u, v, rfl, (ir _).2 (Or.inr ⟨n, hn, ha, l, h1, Chain.only st (r.fi_in k n hn) h2⟩), insd v h3⟩
          · exact ⟨[], a :: w, rfl, (ir []).2 (Or.inl ⟨rfl, hz⟩), insd _ ⟨n, hn, ha, m, hm, hc⟩⟩
  | .alt r s, k, hit, hh, w => by
    obtain ⟨hr, hs⟩ := HitAt.left rfl hh
    have ir := r.words k hr
    have is := s.words (k + r.n) hs
    constructor
    · rintro (h | h)
      · rcases (ir w).1 h with ⟨rfl, h1⟩ | h1
        · exact Or.inl ⟨rfl, by simp [Lx.nl, h1]⟩
        · exact Or.inr (h1.mono (fun n m h => Or.inl h) (fun n h => List.mem_append_left _ h) (fun n h => List.mem_append_left _ h))
      · rcases (is w).1 h with ⟨rfl, h1⟩ | h1
        · exact Or.inl ⟨rfl, by simp [Lx.nl, h1]⟩
        · exact Or.inr (h1.mono (fun n m h => Or.inr h) (fun n h => List.mem_append_right _ h) (fun n h => List.mem_append_right _ h))
    · rintro (⟨rfl, h⟩ | h)
      · simp [Lx.nl] at h
        exact h.imp (fun h => (ir []).2 (Or.inl ⟨rfl, h⟩)) (fun h => (is []).2 (Or.inl ⟨rfl, h⟩))
      · match w, h with
        | a :: w, ⟨n, hn, ha, m, hm, hc⟩ =>
          rcases List.mem_append.1 hn with hn | hn
          · have st : ∀ x y, In k r.n x → (r.fo k x y ∨ s.fo (k + r.n) x y) → r.fo k x y ∧ In k r.n y := fun x y hi h => by
              rcases h with h | h
              · exact ⟨h, (r.fo_in k x y h).2⟩
              · have := s.fo_in _ x y h; unfold In at *; omega
            have hi := r.fi_in k n hn
            have hmi : In k r.n m := Chain.inv (fun x y hi h => (st x y hi h).2) hi hc
            rcases List.mem_append.1 hm with h | h
            · exact Or.inl ((ir _).2 (Or.inr ⟨n, hn, ha, m, h, Chain.only st hi hc⟩))
            · have := s.la_in _ m h; unfold In at *; omega
          · have st : ∀ x y, In (k + r.n) s.n x → (r.fo k x y ∨ s.fo (k + r.n) x y) → s.fo (k + r.n) x y ∧ In (k + r.n) s.n y := fun x y hi h => by
              rcases h with h | h
              · have := r.fo_in k x y h; unfold In at *; omega
              · exact ⟨h, (s.fo_in _ x y h).2⟩
            have hi := s.fi_in _ n hn
            have hmi : In (k + r.n) s.n m := Chain.inv (fun x y hi h => (st x y hi h).2) hi hc
            rcases List.mem_append.1 hm with h | h
            · have := r.la_in _ m h; unfold In at *; omega
            · exact Or.inr ((is _).2 (Or.inr ⟨n, hn, ha, m, h, Chain.only st hi hc⟩))
  | .star r, k, hit, hh, w => by
    have ir := r.words k hh
    have h1 : ∀ w, r.L w → w = [] ∨ Acc hit (r.fo k) (r.fi k) (r.la k) w := fun w h => ((ir w).1 h).imp (fun h => h.1) (fun h => h)
    have hR : ∀ n m, (Lx.star r).fo k n m ↔ r.fo k n m ∨ (n ∈ r.la k ∧ m ∈ r.fi k) := fun n m => Iff.rfl
    constructor
    · intro h
      rcases acc_star h1 hR h with rfl | h
      · exact Or.inl ⟨rfl, rfl⟩
      · exact Or.inr h
    · rintro (⟨rfl, _⟩ | h)
      · exact Star.nil
      · obtain ⟨u, v, rfl, p1, p2⟩ := star_of_acc (P := r.L) (fun w h => (ir w).2 (Or.inr h)) hR _ w (Nat.le_refl _) h
        exact Star.cons p1 p2
  | .plus r, k, hit, hh, w => by
    have ir := r.words k hh
    have h1 : ∀ w, r.L w → w = [] ∨ Acc hit (r.fo k) (r.fi k) (r.la k) w := fun w h => ((ir w).1 h).imp (fun h => h.1) (fun h => h)
    have hR : ∀ n m, (Lx.plus r).fo k n m ↔ r.fo k n m ∨ (n ∈ r.la k ∧ m ∈ r.fi k) := fun n m => Iff.rfl
    constructor
    · rintro ⟨u, v, rfl, hu, hv⟩
      rcases acc_star h1 hR hv with rfl | h
      · rw [List.append_nil]
        rcases (ir u).1 hu with h | h
        · exact Or.inl h
        · exact Or.inr (h.mono (fun n m h => Or.inl h) (fun _ h => h) (fun _ h => h))
      · rcases h1 u hu with rfl | h2
        · exact Or.inr h
        · exact Or.inr (Acc.append (R := (Lx.plus r).fo k) (F := r.fi k) (L := r.la k) (F' := r.fi k) (L' := r.la k) (fun n m hn hm => Or.inr ⟨hn, hm⟩) (h2.mono (fun n m h => Or.inl h) (fun _ h => h) (fun _ h => h)) h)
    · rintro (⟨rfl, h⟩ | h)
      · exact ⟨[], [], rfl, (ir []).2 (Or.inl ⟨rfl, h⟩), Star.nil⟩
      · exact star_of_acc (P := r.L) (fun w h => (ir w).2 (Or.inr h)) hR _ w (Nat.le_refl _) h
  | .maybe r, k, hit, hh, w => by
    have ir := r.words k hh
    constructor
    · rintro (rfl | h)
      · exact Or.inl ⟨rfl, rfl⟩
      · rcases (ir w).1 h with ⟨rfl, _⟩ | h
        · exact Or.inl ⟨rfl, rfl⟩
        · exact Or.inr h
    · rintro (⟨rfl, _⟩ | h)
      · exact Or.inl rfl
      · exact Or.inr ((ir w).2 (Or.inr h))
end Go.Proofs.YtbaegfjoionojaaDoor.Qa
