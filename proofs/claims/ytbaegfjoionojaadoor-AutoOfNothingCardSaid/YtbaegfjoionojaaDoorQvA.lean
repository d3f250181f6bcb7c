/- An argument that is a query: opened. -/
import Derived.Test.YtbaegfjoionojaaDoorQyO
import Derived.Test.YtbaegfjoionojaaDoorTmOF
import Derived.SizedLaws
set_option linter.unusedSimpArgs false
set_option linter.unusedVariables false
namespace Go.Proofs.YtbaegfjoionojaaDoor.Qy
open Go Go.RowKit Go.ChangeShapes Go.WideShapes Go.ChangeAt Go.Proofs.YtbaegfjoionojaaDoor.Tm Go.Proofs.YtbaegfjoionojaaDoorW.PrintWords

/-- An end: a variable, or a term. -/
structure Ed where
  v : ByteArray
  tm : Trm
structure Pat where
  s : Ed
  p : Pth
  o : Ed
structure Fil where
  v : ByteArray
  op : ByteArray
structure Qry where
  ask : Bool
  vars : List ByteArray
  pats : List Pat
  fils : List Fil
  lim : Int
  off : Int
def Ed.cs (a : Ed) : List Value := [.string a.v, .int .i64 a.tm.k, .string a.tm.t, .string a.tm.x]
def PatAt (w : World) (a : Pat) (cs : List Value) : Prop := ∃ pcs, cs = a.s.cs ++ (pcs ++ a.o.cs) ∧ PathAt w anyB a.p pcs
def FilAt (a : Fil) (cs : List Value) : Prop := ∃ u, cs = [.string a.v, .string a.op, .float .f64 u]
/-- Rows of so many cells. -/
def RowAt {α : Type} (w : World) (A : Option Addr) (sz : Nat) (l : List α) (C : α → List Value → Prop) : Prop := ∀ (i : Nat) a, l[i]? = some a → ∃ b o cs, A = some ⟨b, o, none⟩ ∧ (∀ (j : Nat) u, cs[j]? = some u → w.cell? ⟨b, o + i * sz + j, none⟩ = some u) ∧ C a cs
def QryAt (w : World) (q : Qry) (cs : List Value) : Prop := ∃ (A : Option Addr) (c : Nat) (B : Option Addr) (c' : Nat) (D : Option Addr) (d : Nat),
  cs = [.bool q.ask, .slice A q.vars.length c, .slice B q.pats.length c', .slice D q.fils.length d, .int .i64 q.lim, .int .i64 q.off] ∧ q.vars.length ≤ c ∧ q.pats.length ≤ 9223372036854775807 ∧ q.fils.length ≤ 9223372036854775807 ∧
  TsAt w anyB A q.vars ∧ RowAt w B 12 q.pats (PatAt w) ∧ RowAt w D 3 q.fils FilAt
theorem PatAt.below {w w1 : World} {a : Pat} {cs : List Value} (h : PatAt w a cs) (hb : Below w.heap.size w w1) : PatAt w1 a cs := by
  obtain ⟨pcs, e, hp⟩ := h
  exact ⟨pcs, e, hp.below hb⟩
theorem RowAt.below {α : Type} {w w1 : World} {A : Option Addr} {sz : Nat} {l : List α} {C C' : α → List Value → Prop} (h : RowAt w A sz l C) (hb : Below w.heap.size w w1) (hC : ∀ a cs, C a cs → C' a cs) : RowAt w1 A sz l C' := by
  intro i a ha
  obtain ⟨b, o, cs, h1, h2, h3⟩ := h i a ha
  exact ⟨b, o, cs, h1, fun j u hu => pw_cell_below hb (h2 j u hu), hC a cs h3⟩
theorem QryAt.below {w w1 : World} {q : Qry} {cs : List Value} (h : QryAt w q cs) (hb : Below w.heap.size w w1) : QryAt w1 q cs := by
  obtain ⟨A, c, B, c', D, d, e, h1, h2, h3, h4, h5, h6⟩ := h
  exact ⟨A, c, B, c', D, d, e, h1, h2, h3, h4.move (fun g _ hg => hb.block g hg), h5.below hb (fun a cs h => h.below hb), h6.below hb (fun a cs h => h)⟩
def EdSm (N : Nat) (a : Ed) : Prop := a.v.size ≤ N ∧ a.tm.t.size ≤ N ∧ a.tm.x.size ≤ N
theorem Ed.len (a : Ed) : a.cs.length = 4 := rfl
theorem PatAt.len {w : World} {a : Pat} {cs : List Value} (h : PatAt w a cs) : cs.length = 12 := by
  obtain ⟨pcs, e, hp⟩ := h
  rw [e, List.length_append, List.length_append, Ed.len, Ed.len, hp.len]
theorem FilAt.len {a : Fil} {cs : List Value} (h : FilAt a cs) : cs.length = 3 := by
  obtain ⟨u, e⟩ := h
  rw [e]; rfl

section
variable {H : Type} {enc : TypeId × Value → H} {W : World} {base b1 : Nat} {sp : Nat → Bool} {held : Bool}
theorem cells_end : Tryd.prog.cellsOf 76 = 4 := by kernel_rfl
theorem cells_pat : Tryd.prog.cellsOf 78 = 12 := by kernel_rfl
theorem cells_fil : Tryd.prog.cellsOf 122 = 3 := by kernel_rfl
theorem cells_f64 : Tryd.prog.cellsOf 120 = 1 := by kernel_rfl
theorem cells_bool1 : Tryd.prog.cellsOf 4 = 1 := by kernel_rfl
theorem cells_pats : Tryd.prog.cellsOf 65 = 1 := by kernel_rfl
theorem cells_fils : Tryd.prog.cellsOf 66 = 1 := by kernel_rfl
theorem cells_qry : Tryd.prog.cellsOf 68 = 6 := by kernel_rfl
/-- Each weight of a value is at most so great. -/
def Sm (N : Nat) (t : TypeId) (d : DataW H) : Prop := ∀ n ∈ DataW.weights Tryd.prog t d, n ≤ N
theorem weights_all {e : TypeId} : ∀ {l : List (DataW H)} {d : DataW H}, d ∈ l → ∀ n ∈ DataW.weights Tryd.prog e d, n ∈ DataW.weightsAll Tryd.prog e l
  | [], _, h, _, _ => by cases h
  | x :: l, d, h, n, hn => by
    unfold DataW.weightsAll
    rw [List.mem_append]
    rcases List.mem_cons.1 h with rfl | h
    · exact .inl hn
    · exact .inr (weights_all h n hn)
theorem Sm.elem {N : Nat} {st et : TypeId} (ht : Tryd.prog.underlying st = some (.slice et)) {el sp : List (DataW H)} (h : Sm N st (.slice el sp)) {d : DataW H} (hd : d ∈ el) : Sm N et d := fun n hn => h n (by
  unfold DataW.weights
  rw [ht]
  simp only [List.mem_cons, List.mem_append]
  exact .inr (.inl (weights_all hd n hn)))
theorem Sm.part {N : Nat} {t : TypeId} {fs : Array Field} (ht : Tryd.prog.underlying t = some (.struct fs)) {parts : List (DataW H)} (h : Sm N t (.agg parts)) {i : Nat} {f : Field} {d : DataW H} (hf : fs.toList[i]? = some f) (hd : parts[i]? = some d) : Sm N f.type d := fun n hn => h n (by
  unfold DataW.weights
  rw [ht]
  simp only
  exact DataW.weights_mem_each (j := i) (t := f.type) (by rw [List.getElem?_map, hf]; rfl) hd n hn)
theorem Sm.str {N : Nat} {t : TypeId} {l : List UInt8} (h : Sm N t (.lit (.string l) : DataW H)) : l.length ≤ N := h _ (by unfold DataW.weights; simp)
theorem trod_row {α : Type} {st et : TypeId} {sz : Nat} (ht : Tryd.prog.underlying st = some (.slice et)) (hsz : Tryd.prog.cellsOf et = sz) (hpos : 0 < sz) {C : α → List Value → Prop} {G : α → Prop} {N : Nat}
    (each : ∀ (m : Nat) (cs : List Value) (x : DataW H × List MemPlace), DataW.trod enc Tryd.prog W b1 sp held m et cs = some x → ∃ a, C a cs ∧ (Sm N et x.1 → G a)) (hlen : ∀ a cs, C a cs → cs.length = sz)
    {fuel : Nat} {cs : List Value} {x : DataW H × List MemPlace} (h : DataW.trod enc Tryd.prog W b1 sp held fuel st cs = some x) :
    ∃ (A : Option Addr) (c : Nat) (l : List α), cs = [.slice A l.length c] ∧ l.length ≤ c ∧ l.length ≤ 9223372036854775807 ∧ RowAt W A sz l C ∧ (Sm N st x.1 → ∀ a ∈ l, G a) := by
  rcases DataW.trod_slice ht h with ⟨h0, _⟩ | ⟨a, len, cap, elems, rest, m, _, rfl, hx, hb, hl, hm, hlen2, hel, hrest⟩
  · exact ⟨none, 0, [], h0, by simp, by simp, fun i a h => (by cases h), fun _ a h => (by cases h)⟩
  · have each2 : ∀ i, i < len → ∃ q : α, (Sm N st x.1 → G q) ∧ ∃ cs', (∀ (j : Nat) u, cs'[j]? = some u → W.cell? (a.add (i * sz + j)) = some u) ∧ C q cs' := by
      intro i hi
      have hy := hel i hi
      have hei := List.getElem?_eq_getElem (l := elems) (i := i) (by omega)
      rw [hsz, hei, Option.bind_eq_some_iff] at hy
      obtain ⟨cs', hc1, hc2⟩ := hy
      obtain ⟨k1, k2, k3⟩ := World.cells?_some hc1
      obtain ⟨q, hq, hG⟩ := each m cs' _ hc2
      refine ⟨q, fun hS => hG ?_, cs', fun j u hu => ?_, hq⟩
      · rw [hx] at hS
        exact hS.elem ht (List.mem_map_of_mem (List.mem_of_getElem? hei))
      · have hj : j < sz := by
          rcases Nat.lt_or_ge j sz with h | h
          · exact h
          · rw [List.getElem?_eq_none (by rw [hlen q cs' hq]; omega)] at hu; cases hu
        have := k3 j hj
        rw [add_add] at this
        rw [this]; exact hu
    obtain ⟨ks, e, hks⟩ := list_of len each2
    refine ⟨some a, cap, ks, by rw [e], by omega, by unfold maxLen at hm; omega, fun i q hq => ?_, fun hS q hq => ?_⟩
    · obtain ⟨-, cs', h1, h2⟩ := hks i q hq
      have ha : a = ⟨a.block, a.off, none⟩ := by
        obtain ⟨-, cs0, k1, k2⟩ := hks 0 _ (List.getElem?_eq_getElem (show 0 < ks.length by have := (List.getElem?_eq_some_iff.1 hq).1; omega))
        obtain ⟨u0, hu0⟩ : ∃ u, cs0[0]? = some u := ⟨cs0[0]'(by rw [hlen _ _ k2]; exact hpos), List.getElem?_eq_getElem _⟩
        have := k1 0 u0 hu0
        rw [Nat.zero_mul] at this
        exact spot_none (show W.cell? a = some u0 from this)
      refine ⟨a.block, a.off, cs', by rw [← ha], fun j u hu => ?_, h2⟩
      have := h1 j u hu
      rw [ha, add_at] at this
      rw [Nat.add_assoc]
      exact this
    · obtain ⟨i, hi, e2⟩ := List.getElem_of_mem hq
      exact (hks i q (by rw [List.getElem?_eq_getElem hi, e2])).1 hS
theorem trod_f64 {t : TypeId} {fuel : Nat} {cs : List Value} {x : DataW H × List MemPlace} (ht : Tryd.prog.underlying t = some (.float .f64)) (h : DataW.trod enc Tryd.prog W b1 sp held fuel t cs = some x) : ∃ u, cs = [.float .f64 u] := by
  cases fuel with
  | zero => simp [DataW.trod] at h
  | succ n =>
    unfold DataW.trod at h
    rw [ht] at h
    split at h <;> simp_all
theorem cut3 {α : Type} {l : List α} (h : l.length = 3) : ∃ a b c, l = [a, b, c] := by
  rcases l with _ | ⟨a, _ | ⟨b, _ | ⟨c, _ | ⟨d, l⟩⟩⟩⟩
  · cases h
  · cases h
  · cases h
  · exact ⟨a, b, c, rfl⟩
  · simp at h
theorem cut2 {α : Type} {l : List α} (h : l.length = 2) : ∃ a b, l = [a, b] := by
  rcases l with _ | ⟨a, _ | ⟨b, _ | ⟨c, l⟩⟩⟩
  · cases h
  · cases h
  · exact ⟨a, b, rfl⟩
  · simp at h
theorem cut4 {α : Type} {l : List α} (h : l.length = 4) : ∃ a b c d, l = [a, b, c, d] := by
  obtain ⟨a, m, rfl⟩ : ∃ a m, l = a :: m := by cases l with | nil => cases h | cons a m => exact ⟨a, m, rfl⟩
  obtain ⟨b, c, d, rfl⟩ := cut3 (l := m) (by simpa using h)
  exact ⟨a, b, c, d, rfl⟩
theorem cut6 {α : Type} {l : List α} (h : l.length = 6) : ∃ a b c d e f, l = [a, b, c, d, e, f] := by
  obtain ⟨a, m, rfl⟩ : ∃ a m, l = a :: m := by cases l with | nil => cases h | cons a m => exact ⟨a, m, rfl⟩
  obtain ⟨b, m, rfl⟩ : ∃ b n, m = b :: n := by cases m with | nil => simp at h | cons b n => exact ⟨b, n, rfl⟩
  obtain ⟨c, d, e, f, rfl⟩ := cut4 (l := m) (by simpa using h)
  exact ⟨a, b, c, d, e, f, rfl⟩
set_option maxRecDepth 100000 in
theorem trod_end {fuel : Nat} {cs : List Value} {x : DataW H × List MemPlace} (h : DataW.trod enc Tryd.prog W b1 sp held fuel 76 cs = some x) : ∃ a : Ed, cs = a.cs ∧ ∀ N, Sm N 76 x.1 → EdSm N a := by
  obtain ⟨xs, n, hfn, hx, hl, hlen, hf⟩ := DataW.trod_struct Tryd.underlying76 h
  rw [cells_end] at hl
  obtain ⟨c0, c1, c2, c3, rfl⟩ := cut4 hl
  obtain ⟨y0, y1, rfl⟩ := cut2 hlen
  have g0 := hf 0 _ rfl
  have g1 := hf 1 _ rfl
  obtain ⟨n0, e0, x0, w0⟩ := DataW.trod_string Tryd.underlying9 g0
  obtain ⟨a, e1, xa, -⟩ := Tm.trod_term g1
  simp [Qy.cells_str1, Tm.cells_term] at e0 e1
  obtain ⟨rfl, rfl, rfl⟩ := e1
  subst e0 x0 xa
  refine ⟨⟨n0, a⟩, rfl, fun N hS => ?_⟩
  rw [hx] at hS
  have s0 := (hS.part Tryd.underlying76 (i := 0) rfl rfl).str
  have s1 := hS.part Tryd.underlying76 (i := 1) rfl rfl
  have s2 := (Sm.part (parts := [.lit (.int .i64 a.k), .lit (.string a.t.data.toList), .lit (.string a.x.data.toList)]) Tryd.underlying74 s1 (i := 1) rfl rfl).str
  have s3 := (Sm.part (parts := [.lit (.int .i64 a.k), .lit (.string a.t.data.toList), .lit (.string a.x.data.toList)]) Tryd.underlying74 s1 (i := 2) rfl rfl).str
  rw [size_list] at s0 s2 s3
  exact ⟨s0, s2, s3⟩
set_option maxRecDepth 100000 in
theorem trod_pat {fuel : Nat} {cs : List Value} {x : DataW H × List MemPlace} (h : DataW.trod enc Tryd.prog W b1 sp held fuel 78 cs = some x) : ∃ a : Pat, PatAt W a cs ∧ ∀ N, Sm N 78 x.1 → EdSm N a.s ∧ EdSm N a.o := by
  obtain ⟨xs, n, hfn, hx, hl, hlen, hf⟩ := DataW.trod_struct Tryd.underlying78 h
  rw [cells_pat] at hl
  obtain ⟨y0, y1, y2, rfl⟩ := cut3 hlen
  have g0 := hf 0 _ rfl
  have g1 := hf 1 _ rfl
  have g2 := hf 2 _ rfl
  obtain ⟨a, ea, sa⟩ := trod_end g0
  obtain ⟨p, hp⟩ := trod_path _ g1
  obtain ⟨b, eb, sb⟩ := trod_end g2
  have ea : List.take (Tryd.prog.cellsOf 76) (List.drop 0 cs) = a.cs := ea
  have hp : PathAt W anyB p (List.take (Tryd.prog.cellsOf 25) (List.drop 4 cs)) := hp
  have eb : List.take (Tryd.prog.cellsOf 76) (List.drop 8 cs) = b.cs := eb
  rw [cells_end] at ea eb
  rw [cells_path] at hp
  refine ⟨⟨a, p, b⟩, ⟨_, ?_, hp⟩, fun N hS => ?_⟩
  rotate_left 1
  · rw [hx] at hS
    exact ⟨sa N (hS.part Tryd.underlying78 (i := 0) rfl rfl), sb N (hS.part Tryd.underlying78 (i := 2) rfl rfl)⟩
  show cs = a.cs ++ (_ ++ b.cs)
  rw [← ea, ← eb]
  simp only [List.drop_zero]
  rw [show List.take 4 (List.drop 8 cs) = List.drop 8 cs from List.take_of_length_le (by rw [List.length_drop]; omega)]
  rw [show List.drop 8 cs = List.drop 4 (List.drop 4 cs) by rw [List.drop_drop], List.take_append_drop, List.take_append_drop]
set_option maxRecDepth 100000 in
theorem trod_fil {fuel : Nat} {cs : List Value} {x : DataW H × List MemPlace} (h : DataW.trod enc Tryd.prog W b1 sp held fuel 122 cs = some x) : ∃ a : Fil, FilAt a cs := by
  obtain ⟨xs, n, hfn, hx, hl, hlen, hf⟩ := DataW.trod_struct Tryd.underlying122 h
  rw [cells_fil] at hl
  obtain ⟨c0, c1, c2, rfl⟩ := cut3 hl
  obtain ⟨y0, y1, y2, rfl⟩ := cut3 hlen
  have g0 := hf 0 _ rfl
  have g1 := hf 1 _ rfl
  have g2 := hf 2 _ rfl
  obtain ⟨n0, e0, x0, w0⟩ := DataW.trod_string Tryd.underlying9 g0
  obtain ⟨n1, e1, x1, w1⟩ := DataW.trod_string Tryd.underlying9 g1
  obtain ⟨n2, e2⟩ := trod_f64 Tryd.underlying120 g2
  simp [Qy.cells_str1, cells_f64] at e0 e1 e2
  subst e0 e1 e2
  exact ⟨⟨n0, n1⟩, _, rfl⟩
set_option maxRecDepth 100000 in
theorem open_query {v : Value} {d : DataW H} {ps : List MemPlace} (hval : Value.okWide Tryd.prog W .any base 68 v) (hd : DataW.Trod enc Tryd.prog W b1 sp held 68 v d ps) :
    ∃ (q : Qry) (cs : List Value), v = .agg cs.toArray ∧ QryAt W q cs ∧ ((∀ n ∈ DataW.weights Tryd.prog 68 d, n ≤ 140737488351232) → ∀ p ∈ q.pats, EdSm 140737488351232 p.s ∧ EdSm 140737488351232 p.o) := by
  obtain ⟨cs, rfl, h2⟩ := okWide_struct Tryd.underlying68 hval
  obtain ⟨fuel, h⟩ := hd
  obtain ⟨xs, n, hfn, hx, hl, hlen, hf⟩ := DataW.trod_struct Tryd.underlying68 h
  rw [cells_qry] at hl
  have e : (Value.agg cs).cells.toList = cs.toList := by simp [Value.cells]
  suffices hs : ∃ q : Qry, QryAt W q cs.toList ∧ (Sm 140737488351232 68 d → ∀ p ∈ q.pats, EdSm 140737488351232 p.s ∧ EdSm 140737488351232 p.o) by
    obtain ⟨q, hq, hs⟩ := hs
    exact ⟨q, cs.toList, by simp, hq, hs⟩
  rw [e] at hl hf
  obtain ⟨c0, c1, c2, c3, c4, c5, ec⟩ := cut6 hl
  obtain ⟨y0, y1, y2, y3, y4, y5, rfl⟩ := cut6 hlen
  rw [ec] at hf ⊢
  have g0 := hf 0 _ rfl
  have g1 := hf 1 _ rfl
  have g2 := hf 2 _ rfl
  have g3 := hf 3 _ rfl
  have g4 := hf 4 _ rfl
  have g5 := hf 5 _ rfl
  obtain ⟨n0, e0, x0⟩ := DataW.trod_bool Tryd.underlying4 g0
  obtain ⟨A, c, ts, e1, hc, hts⟩ := trod_texts g1
  obtain ⟨B, c', pl, e2, -, hp2, hpl, hsp⟩ := trod_row (C := PatAt W) (G := fun p => EdSm 140737488351232 p.s ∧ EdSm 140737488351232 p.o) (N := 140737488351232) Tryd.underlying65 cells_pat (by decide) (fun m cs x h => (trod_pat h).imp fun a h => ⟨h.1, h.2 _⟩) (fun a cs h => h.len) g2
  obtain ⟨D, d8, fl, e3, -, hf2, hfl, -⟩ := trod_row (C := FilAt) (G := fun _ => True) (N := 0) Tryd.underlying66 cells_fil (by decide) (fun m cs x h => (trod_fil h).imp fun a h => ⟨h, fun _ => trivial⟩) (fun a cs h => h.len) g3
  obtain ⟨n4, e4, x4, w4⟩ := DataW.trod_int Tryd.underlying3 g4
  obtain ⟨n5, e5, x5, w5⟩ := DataW.trod_int Tryd.underlying3 g5
  simp [Qy.cells_int1, cells_bool1, Qy.cells_strs, cells_pats, cells_fils] at e0 e1 e2 e3 e4 e5
  subst e0 e1 e2 e3 e4 e5
  refine ⟨⟨n0, ts, pl, fl, n4, n5⟩, ⟨A, c, B, c', D, d8, rfl, hc, hp2, hf2, hts, hpl, hfl⟩, fun hS => hsp ?_⟩
  have hx1 := (Prod.mk.inj hx).1
  rw [hx1] at hS
  exact hS.part Tryd.underlying68 (i := 2) rfl rfl
end
end Go.Proofs.YtbaegfjoionojaaDoor.Qy
