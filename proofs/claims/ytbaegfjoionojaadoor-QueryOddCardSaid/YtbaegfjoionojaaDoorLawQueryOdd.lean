/- The law QueryOdd: a path with a part that may not be may not be. -/
import Derived.Test.YtbaegfjoionojaaDoorQyW
import Derived.Test.YtbaegfjoionojaaDoorQyT
import Derived.Test.YtbaegfjoionojaaDoorQyN
import Derived.Test.YtbaegfjoionojaaDoorQyO
set_option linter.unusedSimpArgs false
set_option linter.unusedVariables false
namespace Go.Proofs.YtbaegfjoionojaaDoor.Qy
open Go Go.RowKit Go.Proofs.YtbaegfjoionojaaDoor.Tm Go.Proofs.YtbaegfjoionojaaDoorW.PrintWords

def oddL : List Pth := [(.mk 1 ⟨#[97]⟩ [] []), (.mk 0 ⟨#[]⟩ [] []), (.mk 1 ⟨#[]⟩ [] []), (.mk 1 ⟨#[97, 32, 98]⟩ [] []), (.mk 1 ⟨#[97]⟩ [] [(.mk 1 ⟨#[97]⟩ [] [])]), (.mk 3 ⟨#[]⟩ [] [(.mk 1 ⟨#[97]⟩ [] [])]), (.mk 5 ⟨#[]⟩ [] []), (.mk 5 ⟨#[97]⟩ [] [(.mk 1 ⟨#[97]⟩ [] [])]), (.mk 8 ⟨#[]⟩ [] []), (.mk 8 ⟨#[]⟩ [⟨#[97]⟩, ⟨#[60]⟩] []), (.mk 8 ⟨#[]⟩ [⟨#[97]⟩, ⟨#[98]⟩, ⟨#[99]⟩, ⟨#[100]⟩, ⟨#[101]⟩] []), (.mk 1 ⟨#[97]⟩ [⟨#[97]⟩] []), (.mk 9 ⟨#[]⟩ [] []), (.mk 2 ⟨#[]⟩ [] [(.mk 0 ⟨#[]⟩ [] [])])]
def oddA : Pth := .mk 1 ⟨#[97]⟩ [] []
theorem odd_big : ∀ (i : Nat) q, oddL[i]? = some q → bigP q 0 = false := by
  have h : (oddL.all fun q => !bigP q 0) = true := by kernel_rfl
  intro i q hq
  have := List.all_eq_true.1 h q (List.mem_of_getElem? hq)
  simpa using this
theorem odd_may : ∀ (i : Nat) q, 0 < i → oddL[i]? = some q → isP q = false ∧ sameP q oddA = false := by
  have h : (oddL.tail.all fun q => !isP q) = true := by kernel_rfl
  intro i q hi hq
  obtain ⟨j, rfl⟩ : ∃ j, i = j + 1 := ⟨i - 1, by omega⟩
  have hm : q ∈ oddL.tail := by
    have : oddL.tail[j]? = some q := by rw [List.getElem?_tail]; exact hq
    exact List.mem_of_getElem? this
  have h2 : isP q = false := by simpa using List.all_eq_true.1 h q hm
  refine ⟨h2, same_no fun e => ?_⟩
  rw [e] at h2
  exact absurd h2 (by rw [show isP oddA = true by kernel_rfl]; decide)
theorem cells4 {w : World} {b n : Nat} {u0 u1 u2 u3 : Value} (h0 : w.cell? ⟨b, n, none⟩ = some u0) (h1 : w.cell? ⟨b, n + 1, none⟩ = some u1) (h2 : w.cell? ⟨b, n + 2, none⟩ = some u2) (h3 : w.cell? ⟨b, n + 3, none⟩ = some u3) : ∀ (j : Nat) u, [u0, u1, u2, u3][j]? = some u → w.cell? ⟨b, n + j, none⟩ = some u
  | 0, u, h => by cases h; exact h0
  | 1, u, h => by cases h; exact h1
  | 2, u, h => by cases h; exact h2
  | 3, u, h => by cases h; exact h3
  | j + 4, u, h => by cases h
theorem boxO (w : World) (c : Array Value) (ty : TypeId) : ∃ wb, wb = w.alloc (.cells c ty) ∧ Aside0 (Below w.heap.size w wb) ∧ Aside0 (wb.heap[w.heap.size]? = some (.cells c ty (0, 0))) ∧ wb.heap.size = w.heap.size + 1 := ⟨_, rfl, ⟨below_alloc (Below.refl _ _) _⟩, ⟨heap_alloc_new _ _⟩, by simp⟩
theorem odd_ts {w : World} {b : Nat} {ts : List ByteArray} {ty : TypeId} (h : w.heap[b]? = some (.cells (ts.map Value.string).toArray ty (0, 0))) : ∀ (j : Nat) t, ts[j]? = some t → w.cell? ⟨b, 0 + j, none⟩ = some (.string t) := by
  intro j t ht
  rw [Nat.zero_add]
  rw [blk_cell h j]
  simp [ht]
set_option maxRecDepth 100000 in
set_option maxHeartbeats 8000000 in
theorem odd_lit (w : World) : ∃ wl, wl = (((((((((w.alloc (.cells #[.int .i64 1, .string ⟨#[97]⟩, .slice none 0 0, .slice none 0 0] 25)).alloc (.cells #[.int .i64 1, .string ⟨#[97]⟩, .slice none 0 0, .slice none 0 0] 25)).alloc (.cells #[.int .i64 1, .string ⟨#[97]⟩, .slice none 0 0, .slice none 0 0] 25)).alloc (.cells #[.int .i64 1, .string ⟨#[97]⟩, .slice none 0 0, .slice none 0 0] 25)).alloc (.cells #[.string ⟨#[97]⟩, .string ⟨#[60]⟩] 9)).alloc (.cells #[.string ⟨#[97]⟩, .string ⟨#[98]⟩, .string ⟨#[99]⟩, .string ⟨#[100]⟩, .string ⟨#[101]⟩] 9)).alloc (.cells #[.string ⟨#[97]⟩] 9)).alloc (.cells #[.int .i64 0, .string ⟨#[]⟩, .slice none 0 0, .slice none 0 0] 25)).alloc (.cells #[.int .i64 1, .string ⟨#[97]⟩, .slice none 0 0, .slice none 0 0, .int .i64 0, .string ⟨#[]⟩, .slice none 0 0, .slice none 0 0, .int .i64 1, .string ⟨#[]⟩, .slice none 0 0, .slice none 0 0, .int .i64 1, .string ⟨#[97, 32, 98]⟩, .slice none 0 0, .slice none 0 0, .int .i64 1, .string ⟨#[97]⟩, .slice none 0 0, .slice (some ⟨w.heap.size + 1, 0, none⟩) 1 1, .int .i64 3, .string ⟨#[]⟩, .slice none 0 0, .slice (some ⟨w.heap.size + 1 + 1, 0, none⟩) 1 1, .int .i64 5, .string ⟨#[]⟩, .slice none 0 0, .slice none 0 0, .int .i64 5, .string ⟨#[97]⟩, .slice none 0 0, .slice (some ⟨w.heap.size + 1 + 1 + 1, 0, none⟩) 1 1, .int .i64 8, .string ⟨#[]⟩, .slice none 0 0, .slice none 0 0, .int .i64 8, .string ⟨#[]⟩, .slice (some ⟨w.heap.size + 1 + 1 + 1 + 1, 0, none⟩) 2 2, .slice none 0 0, .int .i64 8, .string ⟨#[]⟩, .slice (some ⟨w.heap.size + 1 + 1 + 1 + 1 + 1, 0, none⟩) 5 5, .slice none 0 0, .int .i64 1, .string ⟨#[97]⟩, .slice (some ⟨w.heap.size + 1 + 1 + 1 + 1 + 1 + 1, 0, none⟩) 1 1, .slice none 0 0, .int .i64 9, .string ⟨#[]⟩, .slice none 0 0, .slice none 0 0, .int .i64 2, .string ⟨#[]⟩, .slice none 0 0, .slice (some ⟨w.heap.size + 1 + 1 + 1 + 1 + 1 + 1 + 1, 0, none⟩) 1 1] 25)) ∧ Aside0 (Below w.heap.size w wl) ∧ Aside0 (wl.heap[w.heap.size]? = some (.cells #[.int .i64 1, .string ⟨#[97]⟩, .slice none 0 0, .slice none 0 0] 25 (0, 0))) ∧ KidsAt wl anyB (some ⟨w.heap.size + 1 + 1 + 1 + 1 + 1 + 1 + 1 + 1, 0, none⟩) 0 oddL := by
  obtain ⟨w0, hw0, HA0, HN0, hs0⟩ := boxO w #[.int .i64 1, .string ⟨#[97]⟩, .slice none 0 0, .slice none 0 0] 25
  have HB0 : Below w.heap.size w w0 := HA0.out
  obtain ⟨w1, hw1, HA1, HN1, hs1⟩ := boxO w0 #[.int .i64 1, .string ⟨#[97]⟩, .slice none 0 0, .slice none 0 0] 25
  rw [hs0] at HN1 hs1
  have HB1 : Below w.heap.size w w1 := HB0.trans (HA1.out.mono HB0.size)
  obtain ⟨w2, hw2, HA2, HN2, hs2⟩ := boxO w1 #[.int .i64 1, .string ⟨#[97]⟩, .slice none 0 0, .slice none 0 0] 25
  rw [hs1] at HN2 hs2
  have HB2 : Below w.heap.size w w2 := HB1.trans (HA2.out.mono HB1.size)
  obtain ⟨w3, hw3, HA3, HN3, hs3⟩ := boxO w2 #[.int .i64 1, .string ⟨#[97]⟩, .slice none 0 0, .slice none 0 0] 25
  rw [hs2] at HN3 hs3
  have HB3 : Below w.heap.size w w3 := HB2.trans (HA3.out.mono HB2.size)
  obtain ⟨w4, hw4, HA4, HN4, hs4⟩ := boxO w3 #[.string ⟨#[97]⟩, .string ⟨#[60]⟩] 9
  rw [hs3] at HN4 hs4
  have HB4 : Below w.heap.size w w4 := HB3.trans (HA4.out.mono HB3.size)
  obtain ⟨w5, hw5, HA5, HN5, hs5⟩ := boxO w4 #[.string ⟨#[97]⟩, .string ⟨#[98]⟩, .string ⟨#[99]⟩, .string ⟨#[100]⟩, .string ⟨#[101]⟩] 9
  rw [hs4] at HN5 hs5
  have HB5 : Below w.heap.size w w5 := HB4.trans (HA5.out.mono HB4.size)
  obtain ⟨w6, hw6, HA6, HN6, hs6⟩ := boxO w5 #[.string ⟨#[97]⟩] 9
  rw [hs5] at HN6 hs6
  have HB6 : Below w.heap.size w w6 := HB5.trans (HA6.out.mono HB5.size)
  obtain ⟨w7, hw7, HA7, HN7, hs7⟩ := boxO w6 #[.int .i64 0, .string ⟨#[]⟩, .slice none 0 0, .slice none 0 0] 25
  rw [hs6] at HN7 hs7
  have HB7 : Below w.heap.size w w7 := HB6.trans (HA7.out.mono HB6.size)
  obtain ⟨w8, hw8, HA8, HN8, hs8⟩ := boxO w7 #[.int .i64 1, .string ⟨#[97]⟩, .slice none 0 0, .slice none 0 0, .int .i64 0, .string ⟨#[]⟩, .slice none 0 0, .slice none 0 0, .int .i64 1, .string ⟨#[]⟩, .slice none 0 0, .slice none 0 0, .int .i64 1, .string ⟨#[97, 32, 98]⟩, .slice none 0 0, .slice none 0 0, .int .i64 1, .string ⟨#[97]⟩, .slice none 0 0, .slice (some ⟨w.heap.size + 1, 0, none⟩) 1 1, .int .i64 3, .string ⟨#[]⟩, .slice none 0 0, .slice (some ⟨w.heap.size + 1 + 1, 0, none⟩) 1 1, .int .i64 5, .string ⟨#[]⟩, .slice none 0 0, .slice none 0 0, .int .i64 5, .string ⟨#[97]⟩, .slice none 0 0, .slice (some ⟨w.heap.size + 1 + 1 + 1, 0, none⟩) 1 1, .int .i64 8, .string ⟨#[]⟩, .slice none 0 0, .slice none 0 0, .int .i64 8, .string ⟨#[]⟩, .slice (some ⟨w.heap.size + 1 + 1 + 1 + 1, 0, none⟩) 2 2, .slice none 0 0, .int .i64 8, .string ⟨#[]⟩, .slice (some ⟨w.heap.size + 1 + 1 + 1 + 1 + 1, 0, none⟩) 5 5, .slice none 0 0, .int .i64 1, .string ⟨#[97]⟩, .slice (some ⟨w.heap.size + 1 + 1 + 1 + 1 + 1 + 1, 0, none⟩) 1 1, .slice none 0 0, .int .i64 9, .string ⟨#[]⟩, .slice none 0 0, .slice none 0 0, .int .i64 2, .string ⟨#[]⟩, .slice none 0 0, .slice (some ⟨w.heap.size + 1 + 1 + 1 + 1 + 1 + 1 + 1, 0, none⟩) 1 1] 25
  rw [hs7] at HN8 hs8
  have HB8 : Below w.heap.size w w8 := HB7.trans (HA8.out.mono HB7.size)
  refine ⟨w8, by rw [hw8, hw7, hw6, hw5, hw4, hw3, hw2, hw1, hw0], ⟨HB8⟩, ?_, ?_⟩
  · exact ⟨(blk_below (blk_below (blk_below (blk_below (blk_below (blk_below (blk_below (blk_below HN0.out HA1.out) HA2.out) HA3.out) HA4.out) HA5.out) HA6.out) HA7.out) HA8.out)⟩
  have M1 := (blk_below (blk_below (blk_below (blk_below (blk_below (blk_below (blk_below HN1.out HA2.out) HA3.out) HA4.out) HA5.out) HA6.out) HA7.out) HA8.out)
  have M2 := (blk_below (blk_below (blk_below (blk_below (blk_below (blk_below HN2.out HA3.out) HA4.out) HA5.out) HA6.out) HA7.out) HA8.out)
  have M3 := (blk_below (blk_below (blk_below (blk_below (blk_below HN3.out HA4.out) HA5.out) HA6.out) HA7.out) HA8.out)
  have M4 := (blk_below (blk_below (blk_below (blk_below HN4.out HA5.out) HA6.out) HA7.out) HA8.out)
  have M5 := (blk_below (blk_below (blk_below HN5.out HA6.out) HA7.out) HA8.out)
  have M6 := (blk_below (blk_below HN6.out HA7.out) HA8.out)
  have M7 := (blk_below HN7.out HA8.out)
  have M8 := HN8.out
  clear HN0 HA0 HB0 hs0 HN1 HA1 HB1 hs1 HN2 HA2 HB2 hs2 HN3 HA3 HB3 hs3 HN4 HA4 HB4 hs4 HN5 HA5 HB5 hs5 HN6 HA6 HB6 hs6 HN7 HA7 HB7 hs7 HN8 HA8 HB8 hs8
  unfold oddL
  unfold KidsAt
  refine ⟨⟨w.heap.size + 1 + 1 + 1 + 1 + 1 + 1 + 1 + 1, 0, _, rfl, trivial, (cells4 (n := 0 + 0 * 4) ((blk_cell M8 (0 + 0 * 4 + 0)).trans rfl) ((blk_cell M8 (0 + 0 * 4 + 1)).trans rfl) ((blk_cell M8 (0 + 0 * 4 + 2)).trans rfl) ((blk_cell M8 (0 + 0 * 4 + 3)).trans rfl)), (path_leaf 1 ⟨#[97]⟩)⟩, ?_⟩
  unfold KidsAt
  refine ⟨⟨w.heap.size + 1 + 1 + 1 + 1 + 1 + 1 + 1 + 1, 0, _, rfl, trivial, (cells4 (n := 0 + 1 * 4) ((blk_cell M8 (0 + 1 * 4 + 0)).trans rfl) ((blk_cell M8 (0 + 1 * 4 + 1)).trans rfl) ((blk_cell M8 (0 + 1 * 4 + 2)).trans rfl) ((blk_cell M8 (0 + 1 * 4 + 3)).trans rfl)), (path_leaf 0 ⟨#[]⟩)⟩, ?_⟩
  unfold KidsAt
  refine ⟨⟨w.heap.size + 1 + 1 + 1 + 1 + 1 + 1 + 1 + 1, 0, _, rfl, trivial, (cells4 (n := 0 + 2 * 4) ((blk_cell M8 (0 + 2 * 4 + 0)).trans rfl) ((blk_cell M8 (0 + 2 * 4 + 1)).trans rfl) ((blk_cell M8 (0 + 2 * 4 + 2)).trans rfl) ((blk_cell M8 (0 + 2 * 4 + 3)).trans rfl)), (path_leaf 1 ⟨#[]⟩)⟩, ?_⟩
  unfold KidsAt
  refine ⟨⟨w.heap.size + 1 + 1 + 1 + 1 + 1 + 1 + 1 + 1, 0, _, rfl, trivial, (cells4 (n := 0 + 3 * 4) ((blk_cell M8 (0 + 3 * 4 + 0)).trans rfl) ((blk_cell M8 (0 + 3 * 4 + 1)).trans rfl) ((blk_cell M8 (0 + 3 * 4 + 2)).trans rfl) ((blk_cell M8 (0 + 3 * 4 + 3)).trans rfl)), (path_leaf 1 ⟨#[97, 32, 98]⟩)⟩, ?_⟩
  unfold KidsAt
  refine ⟨⟨w.heap.size + 1 + 1 + 1 + 1 + 1 + 1 + 1 + 1, 0, _, rfl, trivial, (cells4 (n := 0 + 4 * 4) ((blk_cell M8 (0 + 4 * 4 + 0)).trans rfl) ((blk_cell M8 (0 + 4 * 4 + 1)).trans rfl) ((blk_cell M8 (0 + 4 * 4 + 2)).trans rfl) ((blk_cell M8 (0 + 4 * 4 + 3)).trans rfl)), (by unfold PathAt; exact ⟨none, 0, (some ⟨w.heap.size + 1, 0, none⟩), 1, rfl, by decide, by decide, by decide, ⟨by decide, fun h => absurd h (by decide)⟩, (by unfold KidsAt; exact ⟨⟨w.heap.size + 1, 0, _, rfl, trivial, (cells4 (n := 0 + 0 * 4) ((blk_cell M1 (0 + 0 * 4 + 0)).trans rfl) ((blk_cell M1 (0 + 0 * 4 + 1)).trans rfl) ((blk_cell M1 (0 + 0 * 4 + 2)).trans rfl) ((blk_cell M1 (0 + 0 * 4 + 3)).trans rfl)), path_leaf 1 ⟨#[97]⟩⟩, by unfold KidsAt; trivial⟩)⟩)⟩, ?_⟩
  unfold KidsAt
  refine ⟨⟨w.heap.size + 1 + 1 + 1 + 1 + 1 + 1 + 1 + 1, 0, _, rfl, trivial, (cells4 (n := 0 + 5 * 4) ((blk_cell M8 (0 + 5 * 4 + 0)).trans rfl) ((blk_cell M8 (0 + 5 * 4 + 1)).trans rfl) ((blk_cell M8 (0 + 5 * 4 + 2)).trans rfl) ((blk_cell M8 (0 + 5 * 4 + 3)).trans rfl)), (by unfold PathAt; exact ⟨none, 0, (some ⟨w.heap.size + 1 + 1, 0, none⟩), 1, rfl, by decide, by decide, by decide, ⟨by decide, fun h => absurd h (by decide)⟩, (by unfold KidsAt; exact ⟨⟨w.heap.size + 1 + 1, 0, _, rfl, trivial, (cells4 (n := 0 + 0 * 4) ((blk_cell M2 (0 + 0 * 4 + 0)).trans rfl) ((blk_cell M2 (0 + 0 * 4 + 1)).trans rfl) ((blk_cell M2 (0 + 0 * 4 + 2)).trans rfl) ((blk_cell M2 (0 + 0 * 4 + 3)).trans rfl)), path_leaf 1 ⟨#[97]⟩⟩, by unfold KidsAt; trivial⟩)⟩)⟩, ?_⟩
  unfold KidsAt
  refine ⟨⟨w.heap.size + 1 + 1 + 1 + 1 + 1 + 1 + 1 + 1, 0, _, rfl, trivial, (cells4 (n := 0 + 6 * 4) ((blk_cell M8 (0 + 6 * 4 + 0)).trans rfl) ((blk_cell M8 (0 + 6 * 4 + 1)).trans rfl) ((blk_cell M8 (0 + 6 * 4 + 2)).trans rfl) ((blk_cell M8 (0 + 6 * 4 + 3)).trans rfl)), (path_leaf 5 ⟨#[]⟩)⟩, ?_⟩
  unfold KidsAt
  refine ⟨⟨w.heap.size + 1 + 1 + 1 + 1 + 1 + 1 + 1 + 1, 0, _, rfl, trivial, (cells4 (n := 0 + 7 * 4) ((blk_cell M8 (0 + 7 * 4 + 0)).trans rfl) ((blk_cell M8 (0 + 7 * 4 + 1)).trans rfl) ((blk_cell M8 (0 + 7 * 4 + 2)).trans rfl) ((blk_cell M8 (0 + 7 * 4 + 3)).trans rfl)), (by unfold PathAt; exact ⟨none, 0, (some ⟨w.heap.size + 1 + 1 + 1, 0, none⟩), 1, rfl, by decide, by decide, by decide, ⟨by decide, fun h => absurd h (by decide)⟩, (by unfold KidsAt; exact ⟨⟨w.heap.size + 1 + 1 + 1, 0, _, rfl, trivial, (cells4 (n := 0 + 0 * 4) ((blk_cell M3 (0 + 0 * 4 + 0)).trans rfl) ((blk_cell M3 (0 + 0 * 4 + 1)).trans rfl) ((blk_cell M3 (0 + 0 * 4 + 2)).trans rfl) ((blk_cell M3 (0 + 0 * 4 + 3)).trans rfl)), path_leaf 1 ⟨#[97]⟩⟩, by unfold KidsAt; trivial⟩)⟩)⟩, ?_⟩
  unfold KidsAt
  refine ⟨⟨w.heap.size + 1 + 1 + 1 + 1 + 1 + 1 + 1 + 1, 0, _, rfl, trivial, (cells4 (n := 0 + 8 * 4) ((blk_cell M8 (0 + 8 * 4 + 0)).trans rfl) ((blk_cell M8 (0 + 8 * 4 + 1)).trans rfl) ((blk_cell M8 (0 + 8 * 4 + 2)).trans rfl) ((blk_cell M8 (0 + 8 * 4 + 3)).trans rfl)), (path_leaf 8 ⟨#[]⟩)⟩, ?_⟩
  unfold KidsAt
  refine ⟨⟨w.heap.size + 1 + 1 + 1 + 1 + 1 + 1 + 1 + 1, 0, _, rfl, trivial, (cells4 (n := 0 + 9 * 4) ((blk_cell M8 (0 + 9 * 4 + 0)).trans rfl) ((blk_cell M8 (0 + 9 * 4 + 1)).trans rfl) ((blk_cell M8 (0 + 9 * 4 + 2)).trans rfl) ((blk_cell M8 (0 + 9 * 4 + 3)).trans rfl)), (by unfold PathAt; exact ⟨(some ⟨w.heap.size + 1 + 1 + 1 + 1, 0, none⟩), 2, none, 0, rfl, by decide, by decide, by decide, ⟨by decide, fun _ => ⟨w.heap.size + 1 + 1 + 1 + 1, 0, rfl, trivial, odd_ts M4⟩⟩, (by unfold KidsAt; trivial)⟩)⟩, ?_⟩
  unfold KidsAt
  refine ⟨⟨w.heap.size + 1 + 1 + 1 + 1 + 1 + 1 + 1 + 1, 0, _, rfl, trivial, (cells4 (n := 0 + 10 * 4) ((blk_cell M8 (0 + 10 * 4 + 0)).trans rfl) ((blk_cell M8 (0 + 10 * 4 + 1)).trans rfl) ((blk_cell M8 (0 + 10 * 4 + 2)).trans rfl) ((blk_cell M8 (0 + 10 * 4 + 3)).trans rfl)), (by unfold PathAt; exact ⟨(some ⟨w.heap.size + 1 + 1 + 1 + 1 + 1, 0, none⟩), 5, none, 0, rfl, by decide, by decide, by decide, ⟨by decide, fun _ => ⟨w.heap.size + 1 + 1 + 1 + 1 + 1, 0, rfl, trivial, odd_ts M5⟩⟩, (by unfold KidsAt; trivial)⟩)⟩, ?_⟩
  unfold KidsAt
  refine ⟨⟨w.heap.size + 1 + 1 + 1 + 1 + 1 + 1 + 1 + 1, 0, _, rfl, trivial, (cells4 (n := 0 + 11 * 4) ((blk_cell M8 (0 + 11 * 4 + 0)).trans rfl) ((blk_cell M8 (0 + 11 * 4 + 1)).trans rfl) ((blk_cell M8 (0 + 11 * 4 + 2)).trans rfl) ((blk_cell M8 (0 + 11 * 4 + 3)).trans rfl)), (by unfold PathAt; exact ⟨(some ⟨w.heap.size + 1 + 1 + 1 + 1 + 1 + 1, 0, none⟩), 1, none, 0, rfl, by decide, by decide, by decide, ⟨by decide, fun _ => ⟨w.heap.size + 1 + 1 + 1 + 1 + 1 + 1, 0, rfl, trivial, odd_ts M6⟩⟩, (by unfold KidsAt; trivial)⟩)⟩, ?_⟩
  unfold KidsAt
  refine ⟨⟨w.heap.size + 1 + 1 + 1 + 1 + 1 + 1 + 1 + 1, 0, _, rfl, trivial, (cells4 (n := 0 + 12 * 4) ((blk_cell M8 (0 + 12 * 4 + 0)).trans rfl) ((blk_cell M8 (0 + 12 * 4 + 1)).trans rfl) ((blk_cell M8 (0 + 12 * 4 + 2)).trans rfl) ((blk_cell M8 (0 + 12 * 4 + 3)).trans rfl)), (path_leaf 9 ⟨#[]⟩)⟩, ?_⟩
  unfold KidsAt
  refine ⟨⟨w.heap.size + 1 + 1 + 1 + 1 + 1 + 1 + 1 + 1, 0, _, rfl, trivial, (cells4 (n := 0 + 13 * 4) ((blk_cell M8 (0 + 13 * 4 + 0)).trans rfl) ((blk_cell M8 (0 + 13 * 4 + 1)).trans rfl) ((blk_cell M8 (0 + 13 * 4 + 2)).trans rfl) ((blk_cell M8 (0 + 13 * 4 + 3)).trans rfl)), (by unfold PathAt; exact ⟨none, 0, (some ⟨w.heap.size + 1 + 1 + 1 + 1 + 1 + 1 + 1, 0, none⟩), 1, rfl, by decide, by decide, by decide, ⟨by decide, fun h => absurd h (by decide)⟩, (by unfold KidsAt; exact ⟨⟨w.heap.size + 1 + 1 + 1 + 1 + 1 + 1 + 1, 0, _, rfl, trivial, (cells4 (n := 0 + 0 * 4) ((blk_cell M7 (0 + 0 * 4 + 0)).trans rfl) ((blk_cell M7 (0 + 0 * 4 + 1)).trans rfl) ((blk_cell M7 (0 + 0 * 4 + 2)).trans rfl) ((blk_cell M7 (0 + 0 * 4 + 3)).trans rfl)), path_leaf 0 ⟨#[]⟩⟩, by unfold KidsAt; trivial⟩)⟩)⟩, ?_⟩
  unfold KidsAt
  trivial
set_option maxRecDepth 100000 in
set_option maxHeartbeats 8000000 in
theorem odd_no (i : Nat) (h0 : 0 < i) (h14 : i < 14) (w : World) (hT : Tabs w) : Calls Tryd.prog 10 #[.int .i64 (i : Int)] w fun e w' => e = .returned (.bool true) ∧ Below w.heap.size w w' := by
  obtain ⟨wl, hwl, HB0, HN0, hk⟩ := odd_lit w
  obtain ⟨q, hq⟩ : ∃ q, oddL[i]? = some q := ⟨_, List.getElem?_eq_getElem (show i < oddL.length from h14)⟩
  obtain ⟨kb, ko, cs, hB, -, hcell, hp⟩ := KidsAt.get _ hk i q hq
  simp only [Option.some.injEq, Addr.mk.injEq, true_and, and_true] at hB
  obtain ⟨rfl, rfl⟩ := hB
  have hbig := odd_big _ q hq
  obtain ⟨hi, hs⟩ := odd_may i q h0 hq
  obtain ⟨k, t, ts, ks⟩ := q
  obtain ⟨A, c, B, e, rfl, -⟩ := path_cells hp
  have a0 := hcell 0 _ rfl
  have a1 := hcell 1 _ rfl
  have a2 := hcell 2 _ rfl
  have a3 := hcell 3 _ rfl
  simp only [Nat.zero_add, Nat.zero_mul, Nat.add_zero] at a0 a1 a2 a3
  have HA : Aside0 (PathAt wl anyB oddA [.int .i64 1, .string ⟨#[97]⟩, .slice none 0 0, .slice none 0 0]) := ⟨path_leaf 1 ⟨#[97]⟩⟩
  have HP := Aside0.mk hp
  have HTl := Aside0.mk (hT.below HB0.out)
  have HC : Aside0 ((wl.cell? ⟨w.heap.size + 1 + 1 + 1 + 1 + 1 + 1 + 1 + 1, i * 4, none⟩ = some (.int .i64 k)) ∧ (wl.cell? ⟨w.heap.size + 1 + 1 + 1 + 1 + 1 + 1 + 1 + 1, i * 4 + 1, none⟩ = some (.string t)) ∧ (wl.cell? ⟨w.heap.size + 1 + 1 + 1 + 1 + 1 + 1 + 1 + 1, i * 4 + 2, none⟩ = some (.slice A ts.length c)) ∧ (wl.cell? ⟨w.heap.size + 1 + 1 + 1 + 1 + 1 + 1 + 1 + 1, i * 4 + 3, none⟩ = some (.slice B ks.length e))) := ⟨⟨a0, a1, a2, a3⟩⟩
  have HS : Aside0 (∀ W, Below wl.heap.size wl W → (fun W : World => W.cell? ⟨w.heap.size, 0, none⟩ = some (.int .i64 1) ∧ W.cell? ⟨w.heap.size, 1, none⟩ = some (.string ⟨#[97]⟩) ∧ W.cell? ⟨w.heap.size, 2, none⟩ = some (.slice none 0 0) ∧ W.cell? ⟨w.heap.size, 3, none⟩ = some (.slice none 0 0) ∧ W.cell? ⟨w.heap.size + 1 + 1 + 1 + 1 + 1 + 1 + 1 + 1, i * 4, none⟩ = some (.int .i64 k) ∧ W.cell? ⟨w.heap.size + 1 + 1 + 1 + 1 + 1 + 1 + 1 + 1, i * 4 + 1, none⟩ = some (.string t) ∧ W.cell? ⟨w.heap.size + 1 + 1 + 1 + 1 + 1 + 1 + 1 + 1, i * 4 + 2, none⟩ = some (.slice A ts.length c) ∧ W.cell? ⟨w.heap.size + 1 + 1 + 1 + 1 + 1 + 1 + 1 + 1, i * 4 + 3, none⟩ = some (.slice B ks.length e)) W) := ⟨fun W h => ⟨(blk_cell (blk_below HN0.out h) 0).trans rfl, (blk_cell (blk_below HN0.out h) 1).trans rfl, (blk_cell (blk_below HN0.out h) 2).trans rfl, (blk_cell (blk_below HN0.out h) 3).trans rfl, pw_cell_below h HC.out.1, pw_cell_below h HC.out.2.1, pw_cell_below h HC.out.2.2.1, pw_cell_below h HC.out.2.2.2⟩⟩
  have CI : Aside0 (∀ W, Below wl.heap.size wl W → Calls Tryd.prog 32 #[.agg #[.int .i64 k, .string t, .slice A ts.length c, .slice B ks.length e]] W fun e w' => e = .returned (.bool false) ∧ Below W.heap.size W w') := ⟨fun W h => by
    have := is_path _ hbig W anyB _ _ _ _ _ _ _ _ (HP.out.below h) (HTl.out.below h)
    rwa [hi] at this⟩
  have CE : Aside0 (∀ W, Below wl.heap.size wl W → Calls Tryd.prog 31 #[.agg #[.int .i64 k, .string t, .slice A ts.length c, .slice B ks.length e], .agg #[.int .i64 1, .string ⟨#[97]⟩, .slice none 0 0, .slice none 0 0]] W fun e w' => e = .returned (.bool false) ∧ Below W.heap.size W w') := ⟨fun W h => by
    have := same_any _ oddA W anyB anyB _ _ _ _ _ _ _ _ _ _ _ _ _ _ _ _ (HP.out.below h) (HA.out.below h)
    rwa [hs] at this⟩
  have CK : Aside0 (∀ W, Below wl.heap.size wl W → Calls Tryd.prog 28 #[] W fun e w' => e = .returned (.bool true) ∧ Below W.heap.size W w') := ⟨fun W h => by
    exact known_any W (HTl.out.below h)⟩
  have HHW := Aside0.mk hwl.symm
  have g0 : (0 : Int) ≤ (i : Int) := by omega
  have g1 : (i : Int) < 14 := by omega
  have g2 : ((i : Int) == 0) = false := by rw [beq_eq_false_iff_ne]; omega
  clear hwl hq hk hcell hp hbig hi hs a0 a1 a2 a3 hT
  go_enter Tryd.func10, Tryd.ntmps10
  go_upto_region 3 with (fail)
  rw [HHW.out]
  go_upto_region 5 with (fail)
  have hS : (fun W : World => W.cell? ⟨w.heap.size, 0, none⟩ = some (.int .i64 1) ∧ W.cell? ⟨w.heap.size, 1, none⟩ = some (.string ⟨#[97]⟩) ∧ W.cell? ⟨w.heap.size, 2, none⟩ = some (.slice none 0 0) ∧ W.cell? ⟨w.heap.size, 3, none⟩ = some (.slice none 0 0) ∧ W.cell? ⟨w.heap.size + 1 + 1 + 1 + 1 + 1 + 1 + 1 + 1, i * 4, none⟩ = some (.int .i64 k) ∧ W.cell? ⟨w.heap.size + 1 + 1 + 1 + 1 + 1 + 1 + 1 + 1, i * 4 + 1, none⟩ = some (.string t) ∧ W.cell? ⟨w.heap.size + 1 + 1 + 1 + 1 + 1 + 1 + 1 + 1, i * 4 + 2, none⟩ = some (.slice A ts.length c) ∧ W.cell? ⟨w.heap.size + 1 + 1 + 1 + 1 + 1 + 1 + 1 + 1, i * 4 + 3, none⟩ = some (.slice B ks.length e)) wl.drew := HS.out _ (below_drew (Below.refl wl.heap.size wl))
  refine wp_region_held (S := (fun W : World => W.cell? ⟨w.heap.size, 0, none⟩ = some (.int .i64 1) ∧ W.cell? ⟨w.heap.size, 1, none⟩ = some (.string ⟨#[97]⟩) ∧ W.cell? ⟨w.heap.size, 2, none⟩ = some (.slice none 0 0) ∧ W.cell? ⟨w.heap.size, 3, none⟩ = some (.slice none 0 0) ∧ W.cell? ⟨w.heap.size + 1 + 1 + 1 + 1 + 1 + 1 + 1 + 1, i * 4, none⟩ = some (.int .i64 k) ∧ W.cell? ⟨w.heap.size + 1 + 1 + 1 + 1 + 1 + 1 + 1 + 1, i * 4 + 1, none⟩ = some (.string t) ∧ W.cell? ⟨w.heap.size + 1 + 1 + 1 + 1 + 1 + 1 + 1 + 1, i * 4 + 2, none⟩ = some (.slice A ts.length c) ∧ W.cell? ⟨w.heap.size + 1 + 1 + 1 + 1 + 1 + 1 + 1 + 1, i * 4 + 3, none⟩ = some (.slice B ks.length e))) (by kernel_rfl) ?_
  change wpAnyH _ _ _ _ _ _ _ _ wl.drew
  first | refine tkU 0 hS ?_ | (refine tkV 0 (v := ?_) hS ?_ ?_; rotate_left 1; · (intro w0 hSw; (try dsimp only at hSw); go_split_ands; go_simp; try with_reducible rfl)) | fail
  try simp only [Act.put, pL]
  first | refine tkU 1 hS ?_ | (refine tkV 1 (v := ?_) hS ?_ ?_; rotate_left 1; · (intro w0 hSw; (try dsimp only at hSw); go_split_ands; go_simp; try with_reducible rfl)) | fail
  try simp only [Act.put, pL]
  first | refine tkU 2 hS ?_ | (refine tkV 2 (v := ?_) hS ?_ ?_; rotate_left 1; · (intro w0 hSw; (try dsimp only at hSw); go_split_ands; go_simp; try with_reducible rfl)) | fail
  try simp only [Act.put, pL]
  first | refine tkU 3 hS ?_ | (refine tkV 3 (v := ?_) hS ?_ ?_; rotate_left 1; · (intro w0 hSw; (try dsimp only at hSw); go_split_ands; go_simp; try with_reducible rfl)) | fail
  try simp only [Act.put, pL]
  first | refine tkU 5 hS ?_ | (refine tkV 5 (v := ?_) hS ?_ ?_; rotate_left 1; · (intro w0 hSw; (try dsimp only at hSw); go_split_ands; go_simp; try with_reducible rfl)) | fail
  try simp only [Act.put, pL]
  first | refine tkU 6 hS ?_ | (refine tkV 6 (v := ?_) hS ?_ ?_; rotate_left 1; · (intro w0 hSw; (try dsimp only at hSw); go_split_ands; go_simp; try with_reducible rfl)) | fail
  try simp only [Act.put, pL]
  refine wpAnyH_ready (rs := [4]) (by kernel_rfl) (by simp) ?_
  refine AllReadyH.cons rfl (fun K hK => ?_) AllReadyH.nil
  go_simp
  refine (CI.out _ (below_drew (Below.refl wl.heap.size wl))).mono ?_
  rintro e w1 ⟨rfl, hb⟩
  have HB1 := Aside0.mk (below_then (below_drew (Below.refl wl.heap.size wl)) (below_drew (Below.refl wl.heap.size wl)).size hb)
  clear hb hS
  have hS : (fun W : World => W.cell? ⟨w.heap.size, 0, none⟩ = some (.int .i64 1) ∧ W.cell? ⟨w.heap.size, 1, none⟩ = some (.string ⟨#[97]⟩) ∧ W.cell? ⟨w.heap.size, 2, none⟩ = some (.slice none 0 0) ∧ W.cell? ⟨w.heap.size, 3, none⟩ = some (.slice none 0 0) ∧ W.cell? ⟨w.heap.size + 1 + 1 + 1 + 1 + 1 + 1 + 1 + 1, i * 4, none⟩ = some (.int .i64 k) ∧ W.cell? ⟨w.heap.size + 1 + 1 + 1 + 1 + 1 + 1 + 1 + 1, i * 4 + 1, none⟩ = some (.string t) ∧ W.cell? ⟨w.heap.size + 1 + 1 + 1 + 1 + 1 + 1 + 1 + 1, i * 4 + 2, none⟩ = some (.slice A ts.length c) ∧ W.cell? ⟨w.heap.size + 1 + 1 + 1 + 1 + 1 + 1 + 1 + 1, i * 4 + 3, none⟩ = some (.slice B ks.length e)) w1 := HS.out _ HB1.out
  refine hK.out _ _ hS (fun _ => ?_)
  clear hK K
  try simp only [Act.put, pL]
  first | refine tkU 7 hS ?_ | (refine tkV 7 (v := ?_) hS ?_ ?_; rotate_left 1; · (intro w0 hSw; (try dsimp only at hSw); go_split_ands; go_simp; try with_reducible rfl)) | fail
  try simp only [Act.put, pL]
  first | refine tkU 8 hS ?_ | (refine tkV 8 (v := ?_) hS ?_ ?_; rotate_left 1; · (intro w0 hSw; (try dsimp only at hSw); go_split_ands; go_simp; try with_reducible rfl)) | fail
  try simp only [Act.put, pL]
  first | refine tkU 9 hS ?_ | (refine tkV 9 (v := ?_) hS ?_ ?_; rotate_left 1; · (intro w0 hSw; (try dsimp only at hSw); go_split_ands; go_simp; try with_reducible rfl)) | fail
  try simp only [Act.put, pL]
  first | refine tkU 10 hS ?_ | (refine tkV 10 (v := ?_) hS ?_ ?_; rotate_left 1; · (intro w0 hSw; (try dsimp only at hSw); go_split_ands; go_simp; try with_reducible rfl)) | fail
  try simp only [Act.put, pL]
  first | refine tkU 11 hS ?_ | (refine tkV 11 (v := ?_) hS ?_ ?_; rotate_left 1; · (intro w0 hSw; (try dsimp only at hSw); go_split_ands; go_simp; try with_reducible rfl)) | fail
  try simp only [Act.put, pL]
  first | refine tkU 12 hS ?_ | (refine tkV 12 (v := ?_) hS ?_ ?_; rotate_left 1; · (intro w0 hSw; (try dsimp only at hSw); go_split_ands; go_simp; try with_reducible rfl)) | fail
  try simp only [Act.put, pL]
  first | refine tkU 13 hS ?_ | (refine tkV 13 (v := ?_) hS ?_ ?_; rotate_left 1; · (intro w0 hSw; (try dsimp only at hSw); go_split_ands; go_simp; try with_reducible rfl)) | fail
  try simp only [Act.put, pL]
  first | refine tkU 15 hS ?_ | (refine tkV 15 (v := ?_) hS ?_ ?_; rotate_left 1; · (intro w0 hSw; (try dsimp only at hSw); go_split_ands; go_simp; try with_reducible rfl)) | fail
  try simp only [Act.put, pL]
  first | refine tkU 16 hS ?_ | (refine tkV 16 (v := ?_) hS ?_ ?_; rotate_left 1; · (intro w0 hSw; (try dsimp only at hSw); go_split_ands; go_simp; try with_reducible rfl)) | fail
  try simp only [Act.put, pL]
  refine wpAnyH_ready (rs := [14]) (by kernel_rfl) (by simp) ?_
  refine AllReadyH.cons rfl (fun K hK => ?_) AllReadyH.nil
  go_simp
  refine (CE.out _ HB1.out).mono ?_
  rintro e w2 ⟨rfl, hb⟩
  have HB2 := Aside0.mk (below_then HB1.out HB1.out.size hb)
  clear hb hS
  have hS : (fun W : World => W.cell? ⟨w.heap.size, 0, none⟩ = some (.int .i64 1) ∧ W.cell? ⟨w.heap.size, 1, none⟩ = some (.string ⟨#[97]⟩) ∧ W.cell? ⟨w.heap.size, 2, none⟩ = some (.slice none 0 0) ∧ W.cell? ⟨w.heap.size, 3, none⟩ = some (.slice none 0 0) ∧ W.cell? ⟨w.heap.size + 1 + 1 + 1 + 1 + 1 + 1 + 1 + 1, i * 4, none⟩ = some (.int .i64 k) ∧ W.cell? ⟨w.heap.size + 1 + 1 + 1 + 1 + 1 + 1 + 1 + 1, i * 4 + 1, none⟩ = some (.string t) ∧ W.cell? ⟨w.heap.size + 1 + 1 + 1 + 1 + 1 + 1 + 1 + 1, i * 4 + 2, none⟩ = some (.slice A ts.length c) ∧ W.cell? ⟨w.heap.size + 1 + 1 + 1 + 1 + 1 + 1 + 1 + 1, i * 4 + 3, none⟩ = some (.slice B ks.length e)) w2 := HS.out _ HB2.out
  refine hK.out _ _ hS (fun _ => ?_)
  clear hK K
  try simp only [Act.put, pL]
  first | refine tkU 17 hS ?_ | (refine tkV 17 (v := ?_) hS ?_ ?_; rotate_left 1; · (intro w0 hSw; (try dsimp only at hSw); go_split_ands; go_simp; try with_reducible rfl)) | fail
  try simp only [Act.put, pL]
  first | refine tkU 18 hS ?_ | (refine tkV 18 (v := ?_) hS ?_ ?_; rotate_left 1; · (intro w0 hSw; (try dsimp only at hSw); go_split_ands; go_simp; try with_reducible rfl)) | fail
  try simp only [Act.put, pL]
  first | refine tkU 19 hS ?_ | (refine tkV 19 (v := ?_) hS ?_ ?_; rotate_left 1; · (intro w0 hSw; (try dsimp only at hSw); go_split_ands; go_simp; try with_reducible rfl)) | fail
  try simp only [Act.put, pL]
  refine wpAnyH_ready (rs := [20]) (by kernel_rfl) (by simp) ?_
  refine AllReadyH.cons rfl (fun K hK => ?_) AllReadyH.nil
  go_simp
  refine (CK.out _ HB2.out).mono ?_
  rintro e w3 ⟨rfl, hb⟩
  have HB3 := Aside0.mk (below_then HB2.out HB2.out.size hb)
  clear hb hS
  have hS : (fun W : World => W.cell? ⟨w.heap.size, 0, none⟩ = some (.int .i64 1) ∧ W.cell? ⟨w.heap.size, 1, none⟩ = some (.string ⟨#[97]⟩) ∧ W.cell? ⟨w.heap.size, 2, none⟩ = some (.slice none 0 0) ∧ W.cell? ⟨w.heap.size, 3, none⟩ = some (.slice none 0 0) ∧ W.cell? ⟨w.heap.size + 1 + 1 + 1 + 1 + 1 + 1 + 1 + 1, i * 4, none⟩ = some (.int .i64 k) ∧ W.cell? ⟨w.heap.size + 1 + 1 + 1 + 1 + 1 + 1 + 1 + 1, i * 4 + 1, none⟩ = some (.string t) ∧ W.cell? ⟨w.heap.size + 1 + 1 + 1 + 1 + 1 + 1 + 1 + 1, i * 4 + 2, none⟩ = some (.slice A ts.length c) ∧ W.cell? ⟨w.heap.size + 1 + 1 + 1 + 1 + 1 + 1 + 1 + 1, i * 4 + 3, none⟩ = some (.slice B ks.length e)) w3 := HS.out _ HB3.out
  refine hK.out _ _ hS (fun _ => ?_)
  clear hK K
  try simp only [Act.put, pL]
  first | refine tkU 21 hS ?_ | (refine tkV 21 (v := ?_) hS ?_ ?_; rotate_left 1; · (intro w0 hSw; (try dsimp only at hSw); go_split_ands; go_simp; try with_reducible rfl)) | fail
  try simp only [Act.put, pL]
  first | refine tkU 22 hS ?_ | (refine tkV 22 (v := ?_) hS ?_ ?_; rotate_left 1; · (intro w0 hSw; (try dsimp only at hSw); go_split_ands; go_simp; try with_reducible rfl)) | fail
  try simp only [Act.put, pL]
  refine wpAnyH_done (by kernel_rfl) ?_ _
  go_wp2_with fail
  go_ret
  exact ⟨rfl, HB0.out.trans (HB3.out.mono HB0.out.size)⟩
set_option maxRecDepth 100000 in
set_option maxHeartbeats 8000000 in
theorem odd_yes (w : World) (hT : Tabs w) : Calls Tryd.prog 10 #[.int .i64 0] w fun e w' => e = .returned (.bool true) ∧ Below w.heap.size w w' := by
  obtain ⟨wl, hwl, HB0, HN0, hk⟩ := odd_lit w
  obtain ⟨q, hq⟩ : ∃ q, oddL[0]? = some q := ⟨_, List.getElem?_eq_getElem (show 0 < oddL.length from by decide)⟩
  obtain ⟨kb, ko, cs, hB, -, hcell, hp⟩ := KidsAt.get _ hk 0 q hq
  simp only [Option.some.injEq, Addr.mk.injEq, true_and, and_true] at hB
  obtain ⟨rfl, rfl⟩ := hB
  have hbig := odd_big _ q hq
  obtain rfl : oddA = q := Option.some.inj hq
  have hi : isP oddA = true := by kernel_rfl
  have hs : sameP oddA oddA = true := same_yes rfl
  obtain ⟨q, hqq⟩ : ∃ q, oddA = q := ⟨_, rfl⟩
  have HQQ := Aside0.mk hqq
  rw [hqq] at hp hbig hi
  rw [show sameP oddA oddA = sameP q oddA by rw [hqq]] at hs
  obtain ⟨k, t, ts, ks⟩ := q
  obtain ⟨A, c, B, e, rfl, -⟩ := path_cells hp
  have a0 := hcell 0 _ rfl
  have a1 := hcell 1 _ rfl
  have a2 := hcell 2 _ rfl
  have a3 := hcell 3 _ rfl
  simp only [Nat.zero_add, Nat.zero_mul, Nat.add_zero] at a0 a1 a2 a3
  have HA : Aside0 (PathAt wl anyB oddA [.int .i64 1, .string ⟨#[97]⟩, .slice none 0 0, .slice none 0 0]) := ⟨path_leaf 1 ⟨#[97]⟩⟩
  have HP := Aside0.mk hp
  have HTl := Aside0.mk (hT.below HB0.out)
  have HC : Aside0 ((wl.cell? ⟨w.heap.size + 1 + 1 + 1 + 1 + 1 + 1 + 1 + 1, 0, none⟩ = some (.int .i64 k)) ∧ (wl.cell? ⟨w.heap.size + 1 + 1 + 1 + 1 + 1 + 1 + 1 + 1, 1, none⟩ = some (.string t)) ∧ (wl.cell? ⟨w.heap.size + 1 + 1 + 1 + 1 + 1 + 1 + 1 + 1, 2, none⟩ = some (.slice A ts.length c)) ∧ (wl.cell? ⟨w.heap.size + 1 + 1 + 1 + 1 + 1 + 1 + 1 + 1, 3, none⟩ = some (.slice B ks.length e))) := ⟨⟨a0, a1, a2, a3⟩⟩
  have HS : Aside0 (∀ W, Below wl.heap.size wl W → (fun W : World => W.cell? ⟨w.heap.size, 0, none⟩ = some (.int .i64 1) ∧ W.cell? ⟨w.heap.size, 1, none⟩ = some (.string ⟨#[97]⟩) ∧ W.cell? ⟨w.heap.size, 2, none⟩ = some (.slice none 0 0) ∧ W.cell? ⟨w.heap.size, 3, none⟩ = some (.slice none 0 0) ∧ W.cell? ⟨w.heap.size + 1 + 1 + 1 + 1 + 1 + 1 + 1 + 1, 0, none⟩ = some (.int .i64 k) ∧ W.cell? ⟨w.heap.size + 1 + 1 + 1 + 1 + 1 + 1 + 1 + 1, 1, none⟩ = some (.string t) ∧ W.cell? ⟨w.heap.size + 1 + 1 + 1 + 1 + 1 + 1 + 1 + 1, 2, none⟩ = some (.slice A ts.length c) ∧ W.cell? ⟨w.heap.size + 1 + 1 + 1 + 1 + 1 + 1 + 1 + 1, 3, none⟩ = some (.slice B ks.length e)) W) := ⟨fun W h => ⟨(blk_cell (blk_below HN0.out h) 0).trans rfl, (blk_cell (blk_below HN0.out h) 1).trans rfl, (blk_cell (blk_below HN0.out h) 2).trans rfl, (blk_cell (blk_below HN0.out h) 3).trans rfl, pw_cell_below h HC.out.1, pw_cell_below h HC.out.2.1, pw_cell_below h HC.out.2.2.1, pw_cell_below h HC.out.2.2.2⟩⟩
  have CI : Aside0 (∀ W, Below wl.heap.size wl W → Calls Tryd.prog 32 #[.agg #[.int .i64 k, .string t, .slice A ts.length c, .slice B ks.length e]] W fun e w' => e = .returned (.bool true) ∧ Below W.heap.size W w') := ⟨fun W h => by
    have := is_path _ hbig W anyB _ _ _ _ _ _ _ _ (HP.out.below h) (HTl.out.below h)
    rwa [hi] at this⟩
  have CE : Aside0 (∀ W, Below wl.heap.size wl W → Calls Tryd.prog 31 #[.agg #[.int .i64 k, .string t, .slice A ts.length c, .slice B ks.length e], .agg #[.int .i64 1, .string ⟨#[97]⟩, .slice none 0 0, .slice none 0 0]] W fun e w' => e = .returned (.bool true) ∧ Below W.heap.size W w') := ⟨fun W h => by
    have := same_any _ oddA W anyB anyB _ _ _ _ _ _ _ _ _ _ _ _ _ _ _ _ (HP.out.below h) (HA.out.below h)
    rwa [hs] at this⟩
  have CK : Aside0 (∀ W, Below wl.heap.size wl W → Calls Tryd.prog 28 #[] W fun e w' => e = .returned (.bool true) ∧ Below W.heap.size W w') := ⟨fun W h => by
    exact known_any W (HTl.out.below h)⟩
  have HHW := Aside0.mk hwl.symm
  clear hwl hq hk hcell hp hbig hi hs a0 a1 a2 a3 hT
  go_enter Tryd.func10, Tryd.ntmps10
  go_upto_region 3 with (fail)
  rw [HHW.out]
  go_upto_region 5 with (fail)
  have hS : (fun W : World => W.cell? ⟨w.heap.size, 0, none⟩ = some (.int .i64 1) ∧ W.cell? ⟨w.heap.size, 1, none⟩ = some (.string ⟨#[97]⟩) ∧ W.cell? ⟨w.heap.size, 2, none⟩ = some (.slice none 0 0) ∧ W.cell? ⟨w.heap.size, 3, none⟩ = some (.slice none 0 0) ∧ W.cell? ⟨w.heap.size + 1 + 1 + 1 + 1 + 1 + 1 + 1 + 1, 0, none⟩ = some (.int .i64 k) ∧ W.cell? ⟨w.heap.size + 1 + 1 + 1 + 1 + 1 + 1 + 1 + 1, 1, none⟩ = some (.string t) ∧ W.cell? ⟨w.heap.size + 1 + 1 + 1 + 1 + 1 + 1 + 1 + 1, 2, none⟩ = some (.slice A ts.length c) ∧ W.cell? ⟨w.heap.size + 1 + 1 + 1 + 1 + 1 + 1 + 1 + 1, 3, none⟩ = some (.slice B ks.length e)) wl.drew := HS.out _ (below_drew (Below.refl wl.heap.size wl))
  refine wp_region_held (S := (fun W : World => W.cell? ⟨w.heap.size, 0, none⟩ = some (.int .i64 1) ∧ W.cell? ⟨w.heap.size, 1, none⟩ = some (.string ⟨#[97]⟩) ∧ W.cell? ⟨w.heap.size, 2, none⟩ = some (.slice none 0 0) ∧ W.cell? ⟨w.heap.size, 3, none⟩ = some (.slice none 0 0) ∧ W.cell? ⟨w.heap.size + 1 + 1 + 1 + 1 + 1 + 1 + 1 + 1, 0, none⟩ = some (.int .i64 k) ∧ W.cell? ⟨w.heap.size + 1 + 1 + 1 + 1 + 1 + 1 + 1 + 1, 1, none⟩ = some (.string t) ∧ W.cell? ⟨w.heap.size + 1 + 1 + 1 + 1 + 1 + 1 + 1 + 1, 2, none⟩ = some (.slice A ts.length c) ∧ W.cell? ⟨w.heap.size + 1 + 1 + 1 + 1 + 1 + 1 + 1 + 1, 3, none⟩ = some (.slice B ks.length e))) (by kernel_rfl) ?_
  change wpAnyH _ _ _ _ _ _ _ _ wl.drew
  first | refine tkU 0 hS ?_ | (refine tkV 0 (v := ?_) hS ?_ ?_; rotate_left 1; · (intro w0 hSw; (try dsimp only at hSw); go_split_ands; go_simp; try with_reducible rfl)) | fail
  try simp only [Act.put, pL]
  first | refine tkU 1 hS ?_ | (refine tkV 1 (v := ?_) hS ?_ ?_; rotate_left 1; · (intro w0 hSw; (try dsimp only at hSw); go_split_ands; go_simp; try with_reducible rfl)) | fail
  try simp only [Act.put, pL]
  first | refine tkU 2 hS ?_ | (refine tkV 2 (v := ?_) hS ?_ ?_; rotate_left 1; · (intro w0 hSw; (try dsimp only at hSw); go_split_ands; go_simp; try with_reducible rfl)) | fail
  try simp only [Act.put, pL]
  first | refine tkU 3 hS ?_ | (refine tkV 3 (v := ?_) hS ?_ ?_; rotate_left 1; · (intro w0 hSw; (try dsimp only at hSw); go_split_ands; go_simp; try with_reducible rfl)) | fail
  try simp only [Act.put, pL]
  first | refine tkU 5 hS ?_ | (refine tkV 5 (v := ?_) hS ?_ ?_; rotate_left 1; · (intro w0 hSw; (try dsimp only at hSw); go_split_ands; go_simp; try with_reducible rfl)) | fail
  try simp only [Act.put, pL]
  first | refine tkU 6 hS ?_ | (refine tkV 6 (v := ?_) hS ?_ ?_; rotate_left 1; · (intro w0 hSw; (try dsimp only at hSw); go_split_ands; go_simp; try with_reducible rfl)) | fail
  try simp only [Act.put, pL]
  refine wpAnyH_ready (rs := [4]) (by kernel_rfl) (by simp) ?_
  refine AllReadyH.cons rfl (fun K hK => ?_) AllReadyH.nil
  go_simp
  refine (CI.out _ (below_drew (Below.refl wl.heap.size wl))).mono ?_
  rintro e w1 ⟨rfl, hb⟩
  have HB1 := Aside0.mk (below_then (below_drew (Below.refl wl.heap.size wl)) (below_drew (Below.refl wl.heap.size wl)).size hb)
  clear hb hS
  have hS : (fun W : World => W.cell? ⟨w.heap.size, 0, none⟩ = some (.int .i64 1) ∧ W.cell? ⟨w.heap.size, 1, none⟩ = some (.string ⟨#[97]⟩) ∧ W.cell? ⟨w.heap.size, 2, none⟩ = some (.slice none 0 0) ∧ W.cell? ⟨w.heap.size, 3, none⟩ = some (.slice none 0 0) ∧ W.cell? ⟨w.heap.size + 1 + 1 + 1 + 1 + 1 + 1 + 1 + 1, 0, none⟩ = some (.int .i64 k) ∧ W.cell? ⟨w.heap.size + 1 + 1 + 1 + 1 + 1 + 1 + 1 + 1, 1, none⟩ = some (.string t) ∧ W.cell? ⟨w.heap.size + 1 + 1 + 1 + 1 + 1 + 1 + 1 + 1, 2, none⟩ = some (.slice A ts.length c) ∧ W.cell? ⟨w.heap.size + 1 + 1 + 1 + 1 + 1 + 1 + 1 + 1, 3, none⟩ = some (.slice B ks.length e)) w1 := HS.out _ HB1.out
  refine hK.out _ _ hS (fun _ => ?_)
  clear hK K
  try simp only [Act.put, pL]
  first | refine tkU 7 hS ?_ | (refine tkV 7 (v := ?_) hS ?_ ?_; rotate_left 1; · (intro w0 hSw; (try dsimp only at hSw); go_split_ands; go_simp; try with_reducible rfl)) | fail
  try simp only [Act.put, pL]
  first | refine tkU 8 hS ?_ | (refine tkV 8 (v := ?_) hS ?_ ?_; rotate_left 1; · (intro w0 hSw; (try dsimp only at hSw); go_split_ands; go_simp; try with_reducible rfl)) | fail
  try simp only [Act.put, pL]
  first | refine tkU 9 hS ?_ | (refine tkV 9 (v := ?_) hS ?_ ?_; rotate_left 1; · (intro w0 hSw; (try dsimp only at hSw); go_split_ands; go_simp; try with_reducible rfl)) | fail
  try simp only [Act.put, pL]
  first | refine tkU 10 hS ?_ | (refine tkV 10 (v := ?_) hS ?_ ?_; rotate_left 1; · (intro w0 hSw; (try dsimp only at hSw); go_split_ands; go_simp; try with_reducible rfl)) | fail
  try simp only [Act.put, pL]
  first | refine tkU 11 hS ?_ | (refine tkV 11 (v := ?_) hS ?_ ?_; rotate_left 1; · (intro w0 hSw; (try dsimp only at hSw); go_split_ands; go_simp; try with_reducible rfl)) | fail
  try simp only [Act.put, pL]
  first | refine tkU 12 hS ?_ | (refine tkV 12 (v := ?_) hS ?_ ?_; rotate_left 1; · (intro w0 hSw; (try dsimp only at hSw); go_split_ands; go_simp; try with_reducible rfl)) | fail
  try simp only [Act.put, pL]
  first | refine tkU 13 hS ?_ | (refine tkV 13 (v := ?_) hS ?_ ?_; rotate_left 1; · (intro w0 hSw; (try dsimp only at hSw); go_split_ands; go_simp; try with_reducible rfl)) | fail
  try simp only [Act.put, pL]
  first | refine tkU 15 hS ?_ | (refine tkV 15 (v := ?_) hS ?_ ?_; rotate_left 1; · (intro w0 hSw; (try dsimp only at hSw); go_split_ands; go_simp; try with_reducible rfl)) | fail
  try simp only [Act.put, pL]
  first | refine tkU 16 hS ?_ | (refine tkV 16 (v := ?_) hS ?_ ?_; rotate_left 1; · (intro w0 hSw; (try dsimp only at hSw); go_split_ands; go_simp; try with_reducible rfl)) | fail
  try simp only [Act.put, pL]
  refine wpAnyH_ready (rs := [14]) (by kernel_rfl) (by simp) ?_
  refine AllReadyH.cons rfl (fun K hK => ?_) AllReadyH.nil
  go_simp
  refine (CE.out _ HB1.out).mono ?_
  rintro e w2 ⟨rfl, hb⟩
  have HB2 := Aside0.mk (below_then HB1.out HB1.out.size hb)
  clear hb hS
  have hS : (fun W : World => W.cell? ⟨w.heap.size, 0, none⟩ = some (.int .i64 1) ∧ W.cell? ⟨w.heap.size, 1, none⟩ = some (.string ⟨#[97]⟩) ∧ W.cell? ⟨w.heap.size, 2, none⟩ = some (.slice none 0 0) ∧ W.cell? ⟨w.heap.size, 3, none⟩ = some (.slice none 0 0) ∧ W.cell? ⟨w.heap.size + 1 + 1 + 1 + 1 + 1 + 1 + 1 + 1, 0, none⟩ = some (.int .i64 k) ∧ W.cell? ⟨w.heap.size + 1 + 1 + 1 + 1 + 1 + 1 + 1 + 1, 1, none⟩ = some (.string t) ∧ W.cell? ⟨w.heap.size + 1 + 1 + 1 + 1 + 1 + 1 + 1 + 1, 2, none⟩ = some (.slice A ts.length c) ∧ W.cell? ⟨w.heap.size + 1 + 1 + 1 + 1 + 1 + 1 + 1 + 1, 3, none⟩ = some (.slice B ks.length e)) w2 := HS.out _ HB2.out
  refine hK.out _ _ hS (fun _ => ?_)
  clear hK K
  try simp only [Act.put, pL]
  first | refine tkU 17 hS ?_ | (refine tkV 17 (v := ?_) hS ?_ ?_; rotate_left 1; · (intro w0 hSw; (try dsimp only at hSw); go_split_ands; go_simp; try with_reducible rfl)) | fail
  try simp only [Act.put, pL]
  first | refine tkU 18 hS ?_ | (refine tkV 18 (v := ?_) hS ?_ ?_; rotate_left 1; · (intro w0 hSw; (try dsimp only at hSw); go_split_ands; go_simp; try with_reducible rfl)) | fail
  try simp only [Act.put, pL]
  first | refine tkU 19 hS ?_ | (refine tkV 19 (v := ?_) hS ?_ ?_; rotate_left 1; · (intro w0 hSw; (try dsimp only at hSw); go_split_ands; go_simp; try with_reducible rfl)) | fail
  try simp only [Act.put, pL]
  refine wpAnyH_ready (rs := [20]) (by kernel_rfl) (by simp) ?_
  refine AllReadyH.cons rfl (fun K hK => ?_) AllReadyH.nil
  go_simp
  refine (CK.out _ HB2.out).mono ?_
  rintro e w3 ⟨rfl, hb⟩
  have HB3 := Aside0.mk (below_then HB2.out HB2.out.size hb)
  clear hb hS
  have hS : (fun W : World => W.cell? ⟨w.heap.size, 0, none⟩ = some (.int .i64 1) ∧ W.cell? ⟨w.heap.size, 1, none⟩ = some (.string ⟨#[97]⟩) ∧ W.cell? ⟨w.heap.size, 2, none⟩ = some (.slice none 0 0) ∧ W.cell? ⟨w.heap.size, 3, none⟩ = some (.slice none 0 0) ∧ W.cell? ⟨w.heap.size + 1 + 1 + 1 + 1 + 1 + 1 + 1 + 1, 0, none⟩ = some (.int .i64 k) ∧ W.cell? ⟨w.heap.size + 1 + 1 + 1 + 1 + 1 + 1 + 1 + 1, 1, none⟩ = some (.string t) ∧ W.cell? ⟨w.heap.size + 1 + 1 + 1 + 1 + 1 + 1 + 1 + 1, 2, none⟩ = some (.slice A ts.length c) ∧ W.cell? ⟨w.heap.size + 1 + 1 + 1 + 1 + 1 + 1 + 1 + 1, 3, none⟩ = some (.slice B ks.length e)) w3 := HS.out _ HB3.out
  refine hK.out _ _ hS (fun _ => ?_)
  clear hK K
  try simp only [Act.put, pL]
  first | refine tkU 21 hS ?_ | (refine tkV 21 (v := ?_) hS ?_ ?_; rotate_left 1; · (intro w0 hSw; (try dsimp only at hSw); go_split_ands; go_simp; try with_reducible rfl)) | fail
  try simp only [Act.put, pL]
  first | refine tkU 22 hS ?_ | (refine tkV 22 (v := ?_) hS ?_ ?_; rotate_left 1; · (intro w0 hSw; (try dsimp only at hSw); go_split_ands; go_simp; try with_reducible rfl)) | fail
  try simp only [Act.put, pL]
  refine wpAnyH_done (by kernel_rfl) ?_ _
  go_wp2_with fail
  go_ret
  exact ⟨rfl, HB0.out.trans (HB3.out.mono HB0.out.size)⟩
set_option maxRecDepth 100000 in
set_option maxHeartbeats 8000000 in
theorem odd_out (way : Int) (h : way < 0 ∨ 14 ≤ way) (w : World) : Calls Tryd.prog 10 #[.int .i64 way] w fun e w' => e = .returned (.bool true) ∧ Below w.heap.size w w' := by
  obtain ⟨wl, hwl, HB0, HN0, hk⟩ := odd_lit w
  have HHW := Aside0.mk hwl.symm
  clear hwl HN0 hk
  by_cases h0 : way < 0
  · have g0 : decide (way < (0 : Int)) = true := by rw [decide_eq_true_eq]; omega
    go_enter Tryd.func10, Tryd.ntmps10
    go_upto_region 3 with (fail)
    rw [HHW.out]
    go_wp2_with fail
    go_ret
    exact ⟨rfl, HB0.out⟩
  · have g0 : decide (way < (0 : Int)) = false := by rw [decide_eq_false_iff_not]; omega
    have g1 : decide ((14 : Int) ≤ way) = true := by rw [decide_eq_true_eq]; omega
    go_enter Tryd.func10, Tryd.ntmps10
    go_upto_region 3 with (fail)
    rw [HHW.out]
    go_wp2_with fail
    go_ret
    exact ⟨rfl, HB0.out⟩
theorem odd_law (way : Int) (w : World) (_h : (Lit.int .i64 way).wf = true) (hT : Tabs w) : Calls Tryd.prog 10 #[.int .i64 way] w fun e w' => e = .returned (.bool true) ∧ Below w.heap.size w w' := by
  by_cases h : way < 0 ∨ 14 ≤ way
  · exact odd_out way h w
  · obtain ⟨i, rfl⟩ : ∃ i : Nat, way = (i : Int) := ⟨way.toNat, by omega⟩
    by_cases h0 : 0 < i
    · exact odd_no i h0 (by omega) w hT
    · obtain rfl : i = 0 := by omega
      exact odd_yes w hT
end Go.Proofs.YtbaegfjoionojaaDoor.Qy
