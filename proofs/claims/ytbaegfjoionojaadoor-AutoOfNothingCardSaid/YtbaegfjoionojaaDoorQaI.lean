/- An automaton that is being built, as it lies in the memory; what a step of the building leaves as it was. -/
import Derived.Test.YtbaegfjoionojaaDoorQaH
import Derived.Test.YtbaegfjoionojaaDoorQyO
set_option linter.unusedSimpArgs false
set_option linter.unusedVariables false
namespace Go.Proofs.YtbaegfjoionojaaDoor.Qa
open Go Go.RowKit Go.Proofs.YtbaegfjoionojaaDoor.Qy Go.Proofs.YtbaegfjoionojaaDoor.Tm Go.Proofs.YtbaegfjoionojaaDoorW.PrintWords

/-- Places as cells. -/
def ns (l : List Nat) : List Value := l.map fun (n : Nat) => Value.int .i64 (n : Int)
theorem ns_length (l : List Nat) : (ns l).length = l.length := by simp [ns]
theorem ns_append (l m : List Nat) : ns (l ++ m) = ns l ++ ns m := by simp [ns]
theorem ns_get {l : List Nat} {j n : Nat} (h : l[j]? = some n) : (ns l)[j]? = some (Value.int .i64 (n : Int)) := by simp [ns, h]
/-- Places that lie in a row. -/
def IntsAt (w : World) (ok : Nat → Prop) (A : Option Addr) (xs : List Nat) : Prop :=
  xs.length ≤ 9223372036854775807 ∧ (0 < xs.length → ∃ b o, A = some ⟨b, o, none⟩ ∧ ok b ∧ ∀ (j : Nat) n, xs[j]? = some n → w.cell? ⟨b, o + j, none⟩ = some (.int .i64 (n : Int)))
theorem IntsAt.move {w w1 : World} {ok : Nat → Prop} (hm : ∀ k, ok k → k < w.heap.size → w1.heap[k]? = w.heap[k]?) {A : Option Addr} {xs : List Nat} (h : IntsAt w ok A xs) : IntsAt w1 ok A xs :=
  ⟨h.1, fun h0 => by
    obtain ⟨b, o, e, ho, hc⟩ := h.2 h0
    exact ⟨b, o, e, ho, fun j t ht => cell_move hm ho (hc j t ht)⟩⟩
theorem IntsAt.mono {w : World} {ok ok' : Nat → Prop} (hm : ∀ k, ok k → k < w.heap.size → ok' k) {A : Option Addr} {xs : List Nat} (h : IntsAt w ok A xs) : IntsAt w ok' A xs :=
  ⟨h.1, fun h0 => by
    obtain ⟨b, o, e, ho, hc⟩ := h.2 h0
    exact ⟨b, o, e, hm _ ho (World.block_lt_of_cell? w _ (hc 0 _ (List.getElem?_eq_getElem h0))), hc⟩⟩
theorem IntsAt.below {w w1 : World} {ok : Nat → Prop} {A : Option Addr} {xs : List Nat} (h : IntsAt w ok A xs) (hb : Below w.heap.size w w1) : IntsAt w1 ok A xs := h.move (fun k _ hk => hb.block k hk)
/-- A row of places of the call's own. -/
def RowI (w : World) (N : Nat) (v : Value) (r : List Nat) : Prop := w.ownsRow N 3 1 v r.length (ns r)
theorem RowI.reads {w : World} {N : Nat} {v : Value} {r : List Nat} (h : RowI w N v r) : ∃ A c, v = .slice A r.length c ∧ r.length ≤ c ∧ IntsAt w (fun g => v.ownBlock = some g) A r := by
  rcases h.2 with ⟨rfl, h0⟩ | ⟨g, cap, cur, rfl, hg, hh, h1, h2, h3, h4⟩
  · exact ⟨none, 0, by rw [h0], by omega, by omega, fun hp => absurd hp (by omega)⟩
  · refine ⟨_, cap, rfl, h1, by simp only [maxLen] at h2; omega, fun hp => ⟨g, 0, rfl, rfl, fun j n hn => ?_⟩⟩
    have hj := (List.getElem?_eq_some_iff.1 hn).1
    rw [Nat.zero_add, blk_cell hh j, ← Array.getElem?_toList]
    have h5 := ns_get hn
    rw [← h4, List.getElem?_take_of_lt (by omega)] at h5
    exact h5
/-- Cells of what a place is along. -/
def AlR (w : World) (ok : Nat → Prop) (x : Alng) (cs : List Value) : Prop := ∃ (A : Option Addr) (c : Nat), cs = [.slice A x.ts.length c, .bool x.neg, .bool x.back] ∧ x.ts.length ≤ c ∧ TsAt w ok A x.ts
theorem AlR.move {w w1 : World} {ok ok' : Nat → Prop} (hm : ∀ k, ok k → k < w.heap.size → w1.heap[k]? = w.heap[k]? ∧ ok' k) {x : Alng} {cs : List Value} (h : AlR w ok x cs) : AlR w1 ok' x cs := by
  obtain ⟨A, c, e, h1, h2⟩ := h
  exact ⟨A, c, e, h1, (h2.mono (ok' := fun k => ok k ∧ ok' k) (fun k hk hl => ⟨hk, (hm k hk hl).2⟩)).move (fun k hk hl => (hm k hk.1 hl).1) |>.mono (fun k hk _ => hk.2)⟩
theorem AlR.len {w : World} {ok : Nat → Prop} {x : Alng} {cs : List Value} (h : AlR w ok x cs) : cs.length = 3 := by
  obtain ⟨A, c, e, -⟩ := h
  rw [e]; rfl
/-- The blocks that are the automaton's. -/
def ownS (b : Nat) (vA vB : Value) (bs : List Value) (g : Nat) : Prop := g = b ∨ vA.ownBlock = some g ∨ vB.ownBlock = some g ∨ ∃ (i : Nat) (v : Value), bs[i]? = some v ∧ v.ownBlock = some g
/-- The automaton in its block b, its rows beside it, all from N on. -/
structure AutV (w : World) (N b : Nat) (vA vB : Value) (inA bs : List Value) (al : List Alng) (bh : List (List Nat)) (c2 c3 c4 : Value) : Prop where
  hN : N ≤ b
  blk : w.heap[b]? = some (.cells #[vA, vB, c2, c3, c4] 100 (0, 0))
  oA : w.ownsRow N 113 3 vA al.length inA
  rA : Reps (AlR w (fun g => ¬ ownS b vA vB bs g)) 3 al inA
  oB : w.ownsRow N 71 1 vB bh.length bs
  rB : ∀ (i : Nat) v, bs[i]? = some v → RowI w N v (bh.getD i [])
  dj : ∀ (i j : Nat) v v' g, bs[i]? = some v → bs[j]? = some v' → v.ownBlock = some g → v'.ownBlock = some g → i = j
/-- But for the blocks of S, all is as it was; what is S' is S or new. -/
structure Fr (S : Nat → Prop) (w : World) (S' : Nat → Prop) (w' : World) : Prop where
  os : w'.os = w.os
  tape : w'.tape = w.tape
  output : w'.output = w.output
  size : w.heap.size ≤ w'.heap.size
  keep : ∀ g, g < w.heap.size → ¬ S g → w'.heap[g]? = w.heap[g]?
  grow : ∀ g, S' g → S g ∨ w.heap.size ≤ g
theorem Fr.trans {S S1 S2 : Nat → Prop} {w w1 w2 : World} (h : Fr S w S1 w1) (k : Fr S1 w1 S2 w2) : Fr S w S2 w2 :=
  ⟨k.os.trans h.os, k.tape.trans h.tape, k.output.trans h.output, Nat.le_trans h.size k.size,
   fun g hg hs => (k.keep g (by have := h.size; omega) (fun h1 => (h.grow g h1).elim hs (by omega))).trans (h.keep g hg hs),
   fun g hg => (k.grow g hg).elim (h.grow g) (fun h1 => Or.inr (by have := h.size; omega))⟩
theorem Fr.refl (S : Nat → Prop) (w : World) : Fr S w S w := ⟨rfl, rfl, rfl, Nat.le_refl _, fun _ _ _ => rfl, fun _ h => Or.inl h⟩
theorem Fr.of {S : Nat → Prop} {w w1 : World} (h : Below w.heap.size w w1) : Fr S w S w1 := ⟨h.os, h.tape, h.output, h.size, fun g hg _ => h.block g hg, fun _ h => Or.inl h⟩
theorem Fr.ints {S S' : Nat → Prop} {w w' : World} (h : Fr S w S' w') {A : Option Addr} {xs : List Nat} (hi : IntsAt w (fun g => ¬ S g) A xs) : IntsAt w' (fun g => ¬ S' g) A xs :=
  ((hi.mono (ok' := fun g => ¬ S g ∧ g < w.heap.size) (fun k h1 h2 => ⟨h1, h2⟩)).move (fun k hk hl => h.keep k hl hk.1)).mono (fun k hk _ h1 => (h.grow k h1).elim hk.1 (by have := hk.2; omega))
theorem Fr.path {S S' : Nat → Prop} {w w' : World} (h : Fr S w S' w') {p : Pth} {cs : List Value} (hi : PathAt w (fun g => ¬ S g) p cs) : PathAt w' (fun g => ¬ S' g) p cs :=
  PathAt.mono (ok := fun g => ¬ S g ∧ g < w.heap.size) (fun k hk _ h1 => (h.grow k h1).elim hk.1 (by have := hk.2; omega)) p
    (PathAt.move (fun k hk hl => h.keep k hl hk.1) p (PathAt.mono (ok' := fun g => ¬ S g ∧ g < w.heap.size) (fun k h1 h2 => ⟨h1, h2⟩) p hi))
theorem Fr.kids {S S' : Nat → Prop} {w w' : World} (h : Fr S w S' w') {B : Option Addr} {n : Nat} {l : List Pth} (hi : KidsAt w (fun g => ¬ S g) B n l) : KidsAt w' (fun g => ¬ S' g) B n l :=
  KidsAt.mono (ok := fun g => ¬ S g ∧ g < w.heap.size) (fun k hk _ h1 => (h.grow k h1).elim hk.1 (by have := hk.2; omega)) l
    (KidsAt.move (fun k hk hl => h.keep k hl hk.1) l (KidsAt.mono (ok' := fun g => ¬ S g ∧ g < w.heap.size) (fun k h1 h2 => ⟨h1, h2⟩) l hi))
theorem Fr.blk {S S' : Nat → Prop} {w w' : World} (h : Fr S w S' w') {g : Nat} {o : Obj} (hg : w.heap[g]? = some o) (hn : ¬ S g) : w'.heap[g]? = some o := (h.keep g (blk_lt hg) hn).trans hg
section
variable {w w1 : World} {N b : Nat} {vA vB : Value} {inA bs : List Value} {al : List Alng} {bh : List (List Nat)} {c2 c3 c4 : Value}
theorem own_apart {B B' e e' s s' n n' k : Nat} {v v' : Value} {xs xs' : List Value} (h : w.ownsRow B e s v n xs) (h' : w.ownsRow B' e' s' v' n' xs') (hne : e ≠ e') (hk : v.ownBlock = some k) : v'.ownBlock ≠ some k := fun hk' => ne_types h h' hne k hk hk'
theorem AutV.S_lt (h : AutV w N b vA vB inA bs al bh c2 c3 c4) {g : Nat} (hg : ownS b vA vB bs g) : N ≤ g ∧ g < w.heap.size := by
  rcases hg with rfl | hg | hg | ⟨i, v, hv, hg⟩
  · exact ⟨h.hN, blk_lt h.blk⟩
  · exact ⟨own_base h.oA g hg, own_lt h.oA g hg⟩
  · exact ⟨own_base h.oB g hg, own_lt h.oB g hg⟩
  · exact ⟨own_base (h.rB i v hv) g hg, own_lt (h.rB i v hv) g hg⟩
theorem AutV.b_ne (h : AutV w N b vA vB inA bs al bh c2 c3 c4) : some b ≠ vA.ownBlock ∧ some b ≠ vB.ownBlock ∧ ∀ (i : Nat) v, bs[i]? = some v → some b ≠ v.ownBlock :=
  ⟨own_ne h.oA h.blk (by decide), own_ne h.oB h.blk (by decide), fun i v hv => own_ne (h.rB i v hv) h.blk (by decide)⟩
theorem AutV.len (h : AutV w N b vA vB inA bs al bh c2 c3 c4) : bs.length = bh.length := by have := h.oB.1; omega
theorem AutV.move (h : AutV w N b vA vB inA bs al bh c2 c3 c4) (hm : ∀ k, k < w.heap.size → w1.heap[k]? = w.heap[k]?) : AutV w1 N b vA vB inA bs al bh c2 c3 c4 where
  hN := h.hN
  blk := (hm b (blk_lt h.blk)).trans h.blk
  oA := own_move h.oA (fun k hk => hm k (own_lt h.oA k hk))
  rA := h.rA.imp_ (fun x cs hx => hx.move (fun k hk hl => ⟨hm k hl, hk⟩))
  oB := own_move h.oB (fun k hk => hm k (own_lt h.oB k hk))
  rB := fun i v hv => own_move (h.rB i v hv) (fun k hk => hm k (own_lt (h.rB i v hv) k hk))
  dj := h.dj
theorem AutV.below (h : AutV w N b vA vB inA bs al bh c2 c3 c4) (hb : Below w.heap.size w w1) : AutV w1 N b vA vB inA bs al bh c2 c3 c4 := h.move hb.block
/-- One more place's predicates: appended, and the slice laid. -/
theorem AutV.addA (h : AutV w N b vA vB inA bs al bh c2 c3 c4) {x : Alng} {cs : List Value} (hx : AlR w (fun g => ¬ ownS b vA vB bs g) x cs) {v : Value} (ho : w1.ownsRow N 113 3 v (al.length + 1) (inA ++ cs)) (hg : w.grownBy w1 vA.ownBlock)
    (hat : v.ownBlock = vA.ownBlock ∨ ∃ g, v.ownBlock = some g ∧ w.heap.size ≤ g) :
    AutV (w1.setCell ⟨b, 0, none⟩ v) N b v vB (inA ++ cs) bs (al ++ [x]) bh c2 c3 c4 ∧ Fr (ownS b vA vB bs) w (ownS b v vB bs) (w1.setCell ⟨b, 0, none⟩ v) := by
  obtain ⟨n1, n2, n3⟩ := h.b_ne
  have hb1 := blk_grown h.blk hg n1
  have keep : ∀ g, g < w.heap.size → g ≠ b → vA.ownBlock ≠ some g → (w1.setCell ⟨b, 0, none⟩ v).heap[g]? = w.heap[g]? := fun g hl hb hA =>
    (Below.heap_setCell w1 ⟨b, 0, none⟩ v g hb).trans (hg.block g hl (fun e => hA e.symm))
  have grow : ∀ g, ownS b v vB bs g → ownS b vA vB bs g ∨ w.heap.size ≤ g := fun g hS => by
    rcases hS with h1 | h1 | h1
    · exact Or.inl (Or.inl h1)
    · rcases hat with e | ⟨g', e, hl⟩
      · exact Or.inl (Or.inr (Or.inl (e ▸ h1)))
      · rw [e] at h1; injection h1 with h1; exact Or.inr (by omega)
    · exact Or.inl (Or.inr (Or.inr h1))
  have notS : ∀ g, g < w.heap.size → ¬ ownS b vA vB bs g → (w1.setCell ⟨b, 0, none⟩ v).heap[g]? = w.heap[g]? ∧ ¬ ownS b v vB bs g := fun g hl hS =>
    ⟨keep g hl (fun e => hS (Or.inl e)) (fun e => hS (Or.inr (Or.inl e))), fun h1 => (grow g h1).elim hS (by omega)⟩
  refine ⟨⟨h.hN, ?_, ?_, ?_, ?_, ?_, h.dj⟩, ⟨hg.os, hg.tape, hg.output, by simpa using hg.size, fun g hl hS => (notS g hl hS).1, grow⟩⟩
  · rw [blk_set hb1 0]; rfl
  · rw [List.length_append]; exact own_setCell ho (own_ne ho hb1 (by decide)) v
  · exact (h.rA.imp_ (fun y cs hy => hy.move (fun k hk hl => notS k hl hk |>.imp id id))).snoc (hx.move (fun k hk hl => notS k hl hk)) hx.len
  · exact own_move h.oB (fun k hk => keep k (own_lt h.oB k hk) (fun e => n2 (by rw [hk, e])) (own_apart h.oB h.oA (by decide) hk))
  · intro i u hu
    exact own_move (h.rB i u hu) (fun k hk => keep k (own_lt (h.rB i u hu) k hk) (fun e => n3 i u hu (by rw [hk, e])) (own_apart (h.rB i u hu) h.oA (by decide) hk))
/-- One more row, with nothing behind the place yet. -/
theorem AutV.addB (h : AutV w N b vA vB inA bs al bh c2 c3 c4) {v : Value} (ho : w1.ownsRow N 71 1 v (bh.length + 1) (bs ++ [.slice none 0 0])) (hg : w.grownBy w1 vB.ownBlock)
    (hat : v.ownBlock = vB.ownBlock ∨ ∃ g, v.ownBlock = some g ∧ w.heap.size ≤ g) :
    AutV (w1.setCell ⟨b, 1, none⟩ v) N b vA v inA (bs ++ [.slice none 0 0]) al (bh ++ [[]]) c2 c3 c4 ∧ Fr (ownS b vA vB bs) w (ownS b vA v (bs ++ [.slice none 0 0])) (w1.setCell ⟨b, 1, none⟩ v) := by
  obtain ⟨n1, n2, n3⟩ := h.b_ne
  have hb1 := blk_grown h.blk hg n2
  have keep : ∀ g, g < w.heap.size → g ≠ b → vB.ownBlock ≠ some g → (w1.setCell ⟨b, 1, none⟩ v).heap[g]? = w.heap[g]? := fun g hl hb hA =>
    (Below.heap_setCell w1 ⟨b, 1, none⟩ v g hb).trans (hg.block g hl (fun e => hA e.symm))
  have old : ∀ (i : Nat) u g, (bs ++ [Value.slice none 0 0])[i]? = some u → u.ownBlock = some g → bs[i]? = some u := fun i u g hu hg => by
    rcases Nat.lt_or_ge i bs.length with hi | hi
    · rwa [List.getElem?_append_left hi] at hu
    · rw [List.getElem?_append_right hi] at hu
      cases hj : i - bs.length with
      | zero => rw [hj] at hu; simp at hu; subst hu; simp [Value.ownBlock] at hg
      | succ k => rw [hj] at hu; simp at hu
  have grow : ∀ g, ownS b vA v (bs ++ [.slice none 0 0]) g → ownS b vA vB bs g ∨ w.heap.size ≤ g := fun g hS => by
    rcases hS with h1 | h1 | h1 | ⟨i, u, hu, h1⟩
    · exact Or.inl (Or.inl h1)
    · exact Or.inl (Or.inr (Or.inl h1))
    · rcases hat with e | ⟨g', e, hl⟩
      · exact Or.inl (Or.inr (Or.inr (Or.inl (e ▸ h1))))
      · rw [e] at h1; injection h1 with h1; exact Or.inr (by omega)
    · exact Or.inl (Or.inr (Or.inr (Or.inr ⟨i, u, old i u g hu h1, h1⟩)))
  have notS : ∀ g, g < w.heap.size → ¬ ownS b vA vB bs g → (w1.setCell ⟨b, 1, none⟩ v).heap[g]? = w.heap[g]? ∧ ¬ ownS b vA v (bs ++ [.slice none 0 0]) g := fun g hl hS =>
    ⟨keep g hl (fun e => hS (Or.inl e)) (fun e => hS (Or.inr (Or.inr (Or.inl e)))), fun h1 => (grow g h1).elim hS (by omega)⟩
  refine ⟨⟨h.hN, ?_, ?_, ?_, ?_, ?_, ?_⟩, ⟨hg.os, hg.tape, hg.output, by simpa using hg.size, fun g hl hS => (notS g hl hS).1, grow⟩⟩
  · rw [blk_set hb1 1]; rfl
  · exact own_move h.oA (fun k hk => keep k (own_lt h.oA k hk) (fun e => n1 (by rw [hk, e])) (own_apart h.oA h.oB (by decide) hk))
  · exact h.rA.imp_ (fun y cs hy => hy.move (fun k hk hl => notS k hl hk))
  · rw [List.length_append]; exact own_setCell ho (own_ne ho hb1 (by decide)) v
  · intro i u hu
    rcases Nat.lt_or_ge i bs.length with hi | hi
    · rw [List.getElem?_append_left hi] at hu
      have e : (bh ++ [[]]).getD i [] = bh.getD i [] := by simp [List.getElem?_append_left (show i < bh.length by have := h.len; omega)]
      rw [e]
      exact own_move (h.rB i u hu) (fun k hk => keep k (own_lt (h.rB i u hu) k hk) (fun e => n3 i u hu (by rw [hk, e])) (own_apart (h.rB i u hu) h.oB (by decide) hk))
    · rw [List.getElem?_append_right hi] at hu
      cases hj : i - bs.length with
      | zero =>
        rw [hj] at hu; simp at hu; subst hu
        have e : (bh ++ [[]]).getD i [] = [] := by
          rw [show i = bh.length by have := h.len; omega]; simp
        rw [e]
        exact (own_nil _ _ _ _ : World.ownsRow _ N 3 1 (.slice none 0 0) 0 [])
      | succ k => rw [hj] at hu; simp at hu
  · intro i j u u' g hu hu' hg hg'
    exact h.dj i j u u' g (old i u g hu hg) (old j u' g hu' hg') hg hg'
/-- More behind a place: appended, and the slice laid. -/
theorem AutV.addR (h : AutV w N b vA vB inA bs al bh c2 c3 c4) {n m cap gB : Nat} {u v : Value} {t : List Nat} (hu : bs[n]? = some u) (hB : vB = .slice (some ⟨gB, 0, none⟩) m cap) (ho : RowI w1 N v (bh.getD n [] ++ t)) (hg : w.grownBy w1 u.ownBlock)
    (hat : v.ownBlock = u.ownBlock ∨ ∃ g, v.ownBlock = some g ∧ w.heap.size ≤ g) :
    AutV (w1.setCell ⟨gB, n, none⟩ v) N b vA vB inA (bs.set n v) al (bh.set n (bh.getD n [] ++ t)) c2 c3 c4 ∧ Fr (ownS b vA vB bs) w (ownS b vA vB (bs.set n v)) (w1.setCell ⟨gB, n, none⟩ v) := by
  obtain ⟨n1, n2, n3⟩ := h.b_ne
  have hb1 := blk_grown h.blk hg (n3 n u hu)
  have hn : n < bs.length := (List.getElem?_eq_some_iff.1 hu).1
  have hgB : vB.ownBlock = some gB := by rw [hB]; rfl
  have hBu : u.ownBlock ≠ some gB := own_apart h.oB (h.rB n u hu) (by decide) hgB
  have oB1 : w1.ownsRow N 71 1 vB bh.length bs := own_move h.oB (fun k hk => hg.block k (own_lt h.oB k hk) (fun e => own_apart h.oB (h.rB n u hu) (by decide) hk e.symm))
  have keep : ∀ g, g < w.heap.size → g ≠ gB → u.ownBlock ≠ some g → (w1.setCell ⟨gB, n, none⟩ v).heap[g]? = w.heap[g]? := fun g hl hb hA =>
    (Below.heap_setCell w1 ⟨gB, n, none⟩ v g hb).trans (hg.block g hl (fun e => hA e.symm))
  have get : ∀ (i : Nat) x, (bs.set n v)[i]? = some x → (i = n ∧ x = v) ∨ (i ≠ n ∧ bs[i]? = some x) := fun i x hx => by
    by_cases e : i = n
    · subst e; rw [List.getElem?_set_self hn] at hx; exact Or.inl ⟨rfl, (Option.some.inj hx).symm⟩
    · rw [List.getElem?_set_ne (fun h => e h.symm)] at hx; exact Or.inr ⟨e, hx⟩
  have vgrow : ∀ g, v.ownBlock = some g → u.ownBlock = some g ∨ w.heap.size ≤ g := fun g h1 => by
    rcases hat with e | ⟨g', e, hl⟩
    · exact Or.inl (e ▸ h1)
    · rw [e] at h1; injection h1 with h1; exact Or.inr (by omega)
  have grow : ∀ g, ownS b vA vB (bs.set n v) g → ownS b vA vB bs g ∨ w.heap.size ≤ g := fun g hS => by
    rcases hS with h1 | h1 | h1 | ⟨i, x, hx, h1⟩
    · exact Or.inl (Or.inl h1)
    · exact Or.inl (Or.inr (Or.inl h1))
    · exact Or.inl (Or.inr (Or.inr (Or.inl h1)))
    · rcases get i x hx with ⟨rfl, rfl⟩ | ⟨_, hx⟩
      · exact (vgrow g h1).imp_left fun h1 => Or.inr (Or.inr (Or.inr ⟨i, u, hu, h1⟩))
      · exact Or.inl (Or.inr (Or.inr (Or.inr ⟨i, x, hx, h1⟩)))
  have notS : ∀ g, g < w.heap.size → ¬ ownS b vA vB bs g → (w1.setCell ⟨gB, n, none⟩ v).heap[g]? = w.heap[g]? ∧ ¬ ownS b vA vB (bs.set n v) g := fun g hl hS =>
    ⟨keep g hl (fun e => hS (Or.inr (Or.inr (Or.inl (e ▸ hgB))))) (fun e => hS (Or.inr (Or.inr (Or.inr ⟨n, u, hu, e⟩)))), fun h1 => (grow g h1).elim hS (by omega)⟩
  refine ⟨⟨h.hN, ?_, ?_, ?_, ?_, ?_, ?_⟩, ⟨hg.os, hg.tape, hg.output, by simpa using hg.size, fun g hl hS => (notS g hl hS).1, grow⟩⟩
  · exact blk_far hb1 (fun e => n2 (by rw [hgB]; exact congrArg some e)) v
  · exact own_move h.oA (fun k hk => keep k (own_lt h.oA k hk) (fun e => own_apart h.oA h.oB (by decide) hk (e ▸ hgB)) (own_apart h.oA (h.rB n u hu) (by decide) hk))
  · exact h.rA.imp_ (fun y cs hy => hy.move (fun k hk hl => notS k hl hk))
  · rw [List.length_set]
    have e := h.oB.1
    subst hB
    have hm : m = bh.length := by
      rcases h.oB.2 with ⟨h0, _⟩ | ⟨_, _, _, h0, _⟩
      · cases h0
      · injection h0
    subst hm
    exact (oB1.stored n v).1
  · intro i x hx
    rcases get i x hx with ⟨rfl, rfl⟩ | ⟨hi, hx⟩
    · rw [getD_set _ _ _ _ _ (by have := h.len; omega), if_pos rfl]
      refine own_setCell ho (fun e => ?_) x
      rcases vgrow gB e.symm with h1 | h1
      · exact hBu h1
      · have := own_lt h.oB gB hgB; omega
    · rw [getD_set _ _ _ _ _ (by have := h.len; omega), if_neg hi]
      exact own_move (h.rB i x hx) (fun k hk => keep k (own_lt (h.rB i x hx) k hk) (fun e => own_apart h.oB (h.rB i x hx) (by decide) hgB (e ▸ hk)) (fun e => hi (h.dj i n x u k hx hu hk e)))
  · intro i j x x' g hx hx' hg hg'
    rcases get i x hx with ⟨e1, e2⟩ | ⟨hi, hy⟩ <;> rcases get j x' hx' with ⟨e3, e4⟩ | ⟨hj, hy'⟩
    · rw [e1, e3]
    · rw [e2] at hg
      rcases vgrow g hg with h1 | h1
      · rw [e1]; exact h.dj _ _ _ _ _ hu hy' h1 hg'
      · have := own_lt (h.rB j x' hy') g hg'; omega
    · rw [e4] at hg'
      rcases vgrow g hg' with h1 | h1
      · rw [e3]; exact h.dj _ _ _ _ _ hy hu hg h1
      · have := own_lt (h.rB i x hy) g hg; omega
    · exact h.dj _ _ _ _ _ hy hy' hg hg'
end
/-! ### a part in a block of its own -/
/-- But for block B all is as it was. -/
structure Bt (B : Nat) (w w' : World) : Prop where
  os : w'.os = w.os
  tape : w'.tape = w.tape
  output : w'.output = w.output
  size : w'.heap.size = w.heap.size
  keep : ∀ g, g ≠ B → w'.heap[g]? = w.heap[g]?
theorem Bt.set (B : Nat) (w : World) (j : Nat) (v : Value) : Bt B w (w.setCell ⟨B, j, none⟩ v) := ⟨rfl, rfl, rfl, by simp, fun g hg => Below.heap_setCell w ⟨B, j, none⟩ v g hg⟩
theorem Bt.trans {B : Nat} {w w1 w2 : World} (h : Bt B w w1) (k : Bt B w1 w2) : Bt B w w2 := ⟨k.os.trans h.os, k.tape.trans h.tape, k.output.trans h.output, k.size.trans h.size, fun g hg => (k.keep g hg).trans (h.keep g hg)⟩
theorem Bt.set3 (B : Nat) (w : World) (v0 v1 v2 : Value) : Bt B w (((w.setCell ⟨B, 0, none⟩ v0).setCell ⟨B, 1, none⟩ v1).setCell ⟨B, 2, none⟩ v2) := ((Bt.set B w 0 v0).trans (Bt.set B _ 1 v1)).trans (Bt.set B _ 2 v2)
theorem Fr.far {S S' : Nat → Prop} {w0 w w1 : World} (h : Fr S w0 S' w) {B : Nat} (hb : Bt B w w1) (hB : w0.heap.size ≤ B) : Fr S w0 S' w1 :=
  ⟨hb.os.trans h.os, hb.tape.trans h.tape, hb.output.trans h.output, by rw [hb.size]; exact h.size, fun g hg hs => (hb.keep g (by omega)).trans (h.keep g hg hs), h.grow⟩
/-- A part's block. -/
def PartB (w : World) (B : Nat) (F : Option Addr) (f cF : Nat) (L : Option Addr) (l cL : Nat) (em : Bool) : Prop := w.heap[B]? = some (.cells #[.slice F f cF, .slice L l cL, .bool em] 98 (0, 0))
section
variable {w w1 : World} {B : Nat} {F L : Option Addr} {f cF l cL : Nat} {em : Bool}
theorem PartB.kind (h : PartB w B F f cF L l cL em) {j : Nat} {u : Value} (hu : w.cell? ⟨B, j, none⟩ = some u) : (∀ t, u ≠ .string t) ∧ (∀ k n, u ≠ .int k n) := by
  rw [blk_cell h j] at hu
  match j, hu with
  | 0, hu => simp at hu; subst hu; exact ⟨fun t h => (by cases h), fun k n h => (by cases h)⟩
  | 1, hu => simp at hu; subst hu; exact ⟨fun t h => (by cases h), fun k n h => (by cases h)⟩
  | 2, hu => simp at hu; subst hu; exact ⟨fun t h => (by cases h), fun k n h => (by cases h)⟩
  | j + 3, hu => simp at hu
theorem PartB.set3 (h : PartB w B F f cF L l cL em) {F' L' : Option Addr} {f' cF' l' cL' : Nat} {em' : Bool} : PartB (((w.setCell ⟨B, 0, none⟩ (.slice F' f' cF')).setCell ⟨B, 1, none⟩ (.slice L' l' cL')).setCell ⟨B, 2, none⟩ (.bool em')) B F' f' cF' L' l' cL' em' :=
  blk_set (blk_set (blk_set h 0 _) 1 _) 2 _
theorem PartB.cells (h : PartB w B F f cF L l cL em) : w.cell? ⟨B, 0, none⟩ = some (.slice F f cF) ∧ w.cell? ⟨B, 1, none⟩ = some (.slice L l cL) ∧ w.cell? ⟨B, 2, none⟩ = some (.bool em) ∧ w.frozen? ⟨B, 0, none⟩ = false ∧ w.frozen? ⟨B, 1, none⟩ = false ∧ w.frozen? ⟨B, 2, none⟩ = false :=
  ⟨(blk_cell h 0).trans rfl, (blk_cell h 1).trans rfl, (blk_cell h 2).trans rfl, blk_frozen h 0, blk_frozen h 1, blk_frozen h 2⟩
theorem PartB.below (h : PartB w B F f cF L l cL em) (hb : Below w.heap.size w w1) : PartB w1 B F f cF L l cL em := blk_below h hb
theorem IntsAt.far {ok : Nat → Prop} {A : Option Addr} {xs : List Nat} (hi : IntsAt w ok A xs) (h : PartB w B F f cF L l cL em) (hb : Bt B w w1) : IntsAt w1 ok A xs :=
  ⟨hi.1, fun h0 => by
    obtain ⟨b, o, e, ho, hc⟩ := hi.2 h0
    have hne : b ≠ B := by
      rintro rfl
      exact (h.kind (hc 0 _ (List.getElem?_eq_getElem h0))).2 _ _ rfl
    exact ⟨b, o, e, ho, fun j n hn => (World.cell?_of_block (hb.keep b hne)).trans (hc j n hn)⟩⟩
theorem AlR.far {ok : Nat → Prop} {x : Alng} {cs : List Value} (hi : AlR w ok x cs) (h : PartB w B F f cF L l cL em) (hb : Bt B w w1) : AlR w1 ok x cs := by
  obtain ⟨A, c, e, h1, h2⟩ := hi
  refine ⟨A, c, e, h1, h2.1, fun h0 => ?_⟩
  obtain ⟨b, o, e, ho, hc⟩ := h2.2 h0
  have hne : b ≠ B := by
    rintro rfl
    exact (h.kind (hc 0 _ (List.getElem?_eq_getElem h0))).1 _ rfl
  exact ⟨b, o, e, ho, fun j n hn => (World.cell?_of_block (hb.keep b hne)).trans (hc j n hn)⟩
theorem AutV.far {N b : Nat} {vA vB : Value} {inA bs : List Value} {al : List Alng} {bh : List (List Nat)} {c2 c3 c4 : Value} (hv : AutV w N b vA vB inA bs al bh c2 c3 c4) (h : PartB w B F f cF L l cL em) (hb : Bt B w w1) : AutV w1 N b vA vB inA bs al bh c2 c3 c4 where
  hN := hv.hN
  blk := (hb.keep b (blk_ne hv.blk h (by decide))).trans hv.blk
  oA := own_move hv.oA (fun k hk => hb.keep k (fun e => own_ne hv.oA h (by decide) (by rw [hk, e])))
  rA := hv.rA.imp_ (fun x cs hx => hx.far h hb)
  oB := own_move hv.oB (fun k hk => hb.keep k (fun e => own_ne hv.oB h (by decide) (by rw [hk, e])))
  rB := fun i v hi => own_move (hv.rB i v hi) (fun k hk => hb.keep k (fun e => own_ne (hv.rB i v hi) h (by decide) (by rw [hk, e])))
  dj := hv.dj
end
/-- The automaton at b, its blocks being S. -/
def Aut (w : World) (N b : Nat) (al : List Alng) (bh : List (List Nat)) (S : Nat → Prop) : Prop := ∃ vA vB inA bs c2 c3 c4, AutV w N b vA vB inA bs al bh c2 c3 c4 ∧ ownS b vA vB bs = S
theorem Aut.below {w w1 : World} {N b : Nat} {al : List Alng} {bh : List (List Nat)} {S : Nat → Prop} (h : Aut w N b al bh S) (hb : Below w.heap.size w w1) : Aut w1 N b al bh S := by
  obtain ⟨vA, vB, inA, bs, c2, c3, c4, hV, e⟩ := h
  exact ⟨vA, vB, inA, bs, c2, c3, c4, hV.below hb, e⟩
theorem Aut.far {w w1 : World} {N b : Nat} {al : List Alng} {bh : List (List Nat)} {S : Nat → Prop} (hv : Aut w N b al bh S) {B : Nat} {F L : Option Addr} {f cF l cL : Nat} {em : Bool} (h : PartB w B F f cF L l cL em) (hb : Bt B w w1) : Aut w1 N b al bh S := by
  obtain ⟨vA, vB, inA, bs, c2, c3, c4, hV, e⟩ := hv
  exact ⟨vA, vB, inA, bs, c2, c3, c4, hV.far h hb, e⟩
theorem Aut.lt {w : World} {N b : Nat} {al : List Alng} {bh : List (List Nat)} {S : Nat → Prop} (h : Aut w N b al bh S) {g : Nat} (hg : S g) : N ≤ g ∧ g < w.heap.size := by
  obtain ⟨vA, vB, inA, bs, c2, c3, c4, hV, rfl⟩ := h
  exact hV.S_lt hg
theorem Aut.base {w : World} {N b : Nat} {al : List Alng} {bh : List (List Nat)} {S : Nat → Prop} (h : Aut w N b al bh S) : N ≤ b ∧ b < w.heap.size ∧ S b := by
  obtain ⟨vA, vB, inA, bs, c2, c3, c4, hV, rfl⟩ := h
  exact ⟨hV.hN, blk_lt hV.blk, Or.inl rfl⟩
/-- A part's block is none of the automaton's. -/
theorem Aut.not_part {w : World} {N b : Nat} {al : List Alng} {bh : List (List Nat)} {S : Nat → Prop} (hv : Aut w N b al bh S) {B : Nat} {F L : Option Addr} {f cF l cL : Nat} {em : Bool} (h : PartB w B F f cF L l cL em) : ¬ S B := by
  obtain ⟨vA, vB, inA, bs, c2, c3, c4, hV, rfl⟩ := hv
  rintro (e | e | e | ⟨i, v, hi, e⟩)
  · exact blk_ne hV.blk h (by decide) e.symm
  · exact own_ne hV.oA h (by decide) e.symm
  · exact own_ne hV.oB h (by decide) e.symm
  · exact own_ne (hV.rB i v hi) h (by decide) e.symm
end Go.Proofs.YtbaegfjoionojaaDoor.Qa
