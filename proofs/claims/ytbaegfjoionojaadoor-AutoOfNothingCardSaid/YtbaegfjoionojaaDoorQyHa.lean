/- Helpers on paths: a path that may be here, a path's cells, a path boxed. -/
import Derived.Test.YtbaegfjoionojaaDoorQyP
import Derived.Test.YtbaegfjoionojaaDoorQyQ
set_option linter.unusedSimpArgs false
set_option linter.unusedVariables false
namespace Go.Proofs.YtbaegfjoionojaaDoor.Qy
open Go Go.RowKit Go.Proofs.YtbaegfjoionojaaDoor.Tm Go.Proofs.YtbaegfjoionojaaDoorW.PrintWords

theorem join_len : ∀ l : List (List UInt8), (∀ x ∈ l, x.length ≤ 60) → (Lib.join l [62, 124, 60]).length ≤ 63 * l.length
  | [], _ => by simp [Lib.join]
  | [x], h => by have := h x (by simp); simp [Lib.join]; omega
  | x :: y :: l, h => by
    have h1 := h x (by simp)
    have h2 := join_len (y :: l) (fun z hz => h z (by simp at hz ⊢; right; exact hz))
    have e : Lib.join (x :: y :: l) [62, 124, 60] = x ++ ([62, 124, 60] ++ Lib.join (y :: l) [62, 124, 60]) := by simp [Lib.join, List.intercalate]
    rw [e]
    simp only [List.length_append, List.length_cons, List.length_nil] at h2 ⊢
    omega
theorem iri_size {t : ByteArray} (h : iriB t = true) : t.size ≤ 60 := by
  unfold iriB at h; simp at h; omega
theorem here_kind {k : Int} {t : ByteArray} {ts : List ByteArray} {n d : Nat} (h : hereB k t ts n d = true) : d ≤ 5 ∧ (n : Int) = kidsN k ∧ (if k = 1 then iriB t = true else t.size = 0) ∧ (if k = 8 then 1 ≤ ts.length ∧ ts.length ≤ 4 ∧ ts.all iriB = true else ts.length = 0) := by
  unfold hereB at h
  simp only [Bool.and_eq_true, decide_eq_true_eq] at h
  refine ⟨h.1.1.1, h.1.1.2, ?_, ?_⟩
  · have := h.1.2
    split at this
    · rw [if_pos (by assumption)]; exact this
    · rw [if_neg (by assumption)]; simpa using this
  · have := h.2
    split at this
    · rw [if_pos (by assumption)]
      simp only [Bool.and_eq_true, decide_eq_true_eq] at this
      exact ⟨this.1.1, this.1.2, this.2⟩
    · rw [if_neg (by assumption)]; simpa using this
theorem count_mk {k : Int} {t : ByteArray} {ts : List ByteArray} {ks : List Pth} {d n : Nat} (h : countP (.mk k t ts ks) d = some n) : hereB k t ts ks.length d = true ∧ ∃ m, countL ks (d + 1) = some m ∧ n = m + 1 := by
  unfold countP at h
  split at h
  · rename_i hh
    simp only [Option.map_eq_some_iff] at h
    obtain ⟨m, h1, h2⟩ := h
    exact ⟨hh, m, h1, h2.symm⟩
  · cases h
theorem count_one {p : Pth} {d m : Nat} (h : countL [p] d = some m) : countP p d = some m := by
  unfold countL at h
  split at h
  · cases h
  · rename_i n hn
    simp [countL] at h
    rw [hn, h]
theorem count_two {p q : Pth} {d m : Nat} (h : countL [p, q] d = some m) : ∃ a b, countP p d = some a ∧ countP q d = some b ∧ m = a + b := by
  unfold countL at h
  split at h
  · cases h
  · rename_i n hn
    simp only [Option.map_eq_some_iff] at h
    obtain ⟨b, h1, h2⟩ := h
    exact ⟨n, b, hn, count_one h1, h2.symm⟩
theorem kinds_of {k : Int} {n : Nat} (h : (n : Int) = kidsN k) : (k = 1 ∧ n = 0) ∨ (k = 8 ∧ n = 0) ∨ (k = 2 ∧ n = 1) ∨ (k = 5 ∧ n = 1) ∨ (k = 6 ∧ n = 1) ∨ (k = 7 ∧ n = 1) ∨ (k = 3 ∧ n = 2) ∨ (k = 4 ∧ n = 2) := by
  unfold kidsN at h
  repeat' split at h
  all_goals omega
theorem list1 {α : Type} {l : List α} (h : l.length = 1) : ∃ a, l = [a] := by
  rcases l with _ | ⟨a, _ | ⟨b, l⟩⟩
  · cases h
  · exact ⟨a, rfl⟩
  · simp at h
theorem list2 {α : Type} {l : List α} (h : l.length = 2) : ∃ a b, l = [a, b] := by
  rcases l with _ | ⟨a, _ | ⟨b, _ | ⟨c, l⟩⟩⟩
  · cases h
  · cases h
  · exact ⟨a, b, rfl⟩
  · simp at h
theorem ret_str {a b : ByteArray} (h : a = b) : Ending.returned (.string a) = .returned (.string b) := by rw [h]
theorem path_cells {w : World} {ok : Nat → Prop} {k : Int} {t : ByteArray} {ts : List ByteArray} {ks : List Pth} {cs : List Value} (h : PathAt w ok (.mk k t ts ks) cs) : ∃ (A : Option Addr) (c : Nat) (B : Option Addr) (d : Nat), cs = [.int .i64 k, .string t, .slice A ts.length c, .slice B ks.length d] ∧ ts.length ≤ c ∧ ks.length ≤ d ∧ ks.length ≤ 9223372036854775807 ∧ TsAt w ok A ts ∧ KidsAt w ok B 0 ks := by
  unfold PathAt at h; exact h
theorem boxP (w : World) (k : Int) (t : ByteArray) (A : Option Addr) (n c : Nat) (B : Option Addr) (m d : Nat) : ∃ wb, wb = w.alloc (.cells #[.int .i64 k, .string t, .slice A n c, .slice B m d] 25) ∧ Aside0 (Below w.heap.size w wb) ∧ Aside0 (wb.heap[w.heap.size]? = some (.cells #[.int .i64 k, .string t, .slice A n c, .slice B m d] 25 (0, 0))) := ⟨_, rfl, ⟨below_alloc (Below.refl _ _) _⟩, ⟨heap_alloc_new _ _⟩⟩
theorem ba_size (l : List UInt8) : (⟨l.toArray⟩ : ByteArray).size = l.length := by simp [ByteArray.size]
theorem pth_k (k : Int) (t : ByteArray) (ts : List ByteArray) (ks : List Pth) : (Pth.mk k t ts ks).k = k := rfl
end Go.Proofs.YtbaegfjoionojaaDoor.Qy
