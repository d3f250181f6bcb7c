/- The walk of term.Number at the law's terms. -/
import Derived.Test.YtmenjcjpihpjjaaDoorTmT
import Derived.Test.YtmenjcjpihpjjaaDoorKnown
set_option linter.unusedSimpArgs false
set_option linter.unusedVariables false
namespace Go.Proofs.YtmenjcjpihpjjaaDoor.Tm
open Go Go.RowKit Go.Shelf Go.Proofs.YtmenjcjpihpjjaaDoorW.PrintWords

def NumP (w : World) (a : Nat) (b : Bool) (e : Ending) (w' : World) : Prop := e = .returned (.tuple #[.float .f64 a, .bool b]) ∧ Below w.heap.size w w'
theorem cut_0 (w : World) : Calls Tryd.prog 33 #[.string (⟨#[104, 116, 116, 112, 58, 47, 47, 119, 119, 119, 46, 119, 51, 46, 111, 114, 103, 47, 50, 48, 48, 49, 47, 88, 77, 76, 83, 99, 104, 101, 109, 97, 35, 100, 111, 117, 98, 108, 101]⟩ : ByteArray), .string (⟨#[104, 116, 116, 112, 58, 47, 47, 119, 119, 119, 46, 119, 51, 46, 111, 114, 103, 47, 50, 48, 48, 49, 47, 88, 77, 76, 83, 99, 104, 101, 109, 97, 35]⟩ : ByteArray)] w fun e w' => e = .returned (.tuple #[.string (⟨#[100, 111, 117, 98, 108, 101]⟩ : ByteArray), .bool true]) ∧ w' = w := by
  have := Tryd.strings_CutPrefix (⟨#[104, 116, 116, 112, 58, 47, 47, 119, 119, 119, 46, 119, 51, 46, 111, 114, 103, 47, 50, 48, 48, 49, 47, 88, 77, 76, 83, 99, 104, 101, 109, 97, 35, 100, 111, 117, 98, 108, 101]⟩ : ByteArray) (⟨#[104, 116, 116, 112, 58, 47, 47, 119, 119, 119, 46, 119, 51, 46, 111, 114, 103, 47, 50, 48, 48, 49, 47, 88, 77, 76, 83, 99, 104, 101, 109, 97, 35]⟩ : ByteArray) w
  rwa [show (⟨(Lib.trimPrefix ((⟨#[104, 116, 116, 112, 58, 47, 47, 119, 119, 119, 46, 119, 51, 46, 111, 114, 103, 47, 50, 48, 48, 49, 47, 88, 77, 76, 83, 99, 104, 101, 109, 97, 35, 100, 111, 117, 98, 108, 101]⟩ : ByteArray)).data.toList ((⟨#[104, 116, 116, 112, 58, 47, 47, 119, 119, 119, 46, 119, 51, 46, 111, 114, 103, 47, 50, 48, 48, 49, 47, 88, 77, 76, 83, 99, 104, 101, 109, 97, 35]⟩ : ByteArray)).data.toList).toArray⟩ : ByteArray) = (⟨#[100, 111, 117, 98, 108, 101]⟩ : ByteArray) by kernel_rfl, show Lib.hasPrefix ((⟨#[104, 116, 116, 112, 58, 47, 47, 119, 119, 119, 46, 119, 51, 46, 111, 114, 103, 47, 50, 48, 48, 49, 47, 88, 77, 76, 83, 99, 104, 101, 109, 97, 35, 100, 111, 117, 98, 108, 101]⟩ : ByteArray)).data.toList ((⟨#[104, 116, 116, 112, 58, 47, 47, 119, 119, 119, 46, 119, 51, 46, 111, 114, 103, 47, 50, 48, 48, 49, 47, 88, 77, 76, 83, 99, 104, 101, 109, 97, 35]⟩ : ByteArray)).data.toList = true by kernel_rfl] at this
theorem cut_1 (w : World) : Calls Tryd.prog 33 #[.string (⟨#[104, 116, 116, 112, 58, 47, 47, 119, 119, 119, 46, 119, 51, 46, 111, 114, 103, 47, 50, 48, 48, 49, 47, 88, 77, 76, 83, 99, 104, 101, 109, 97, 35, 100, 101, 99, 105, 109, 97, 108]⟩ : ByteArray), .string (⟨#[104, 116, 116, 112, 58, 47, 47, 119, 119, 119, 46, 119, 51, 46, 111, 114, 103, 47, 50, 48, 48, 49, 47, 88, 77, 76, 83, 99, 104, 101, 109, 97, 35]⟩ : ByteArray)] w fun e w' => e = .returned (.tuple #[.string (⟨#[100, 101, 99, 105, 109, 97, 108]⟩ : ByteArray), .bool true]) ∧ w' = w := by
  have := Tryd.strings_CutPrefix (⟨#[104, 116, 116, 112, 58, 47, 47, 119, 119, 119, 46, 119, 51, 46, 111, 114, 103, 47, 50, 48, 48, 49, 47, 88, 77, 76, 83, 99, 104, 101, 109, 97, 35, 100, 101, 99, 105, 109, 97, 108]⟩ : ByteArray) (⟨#[104, 116, 116, 112, 58, 47, 47, 119, 119, 119, 46, 119, 51, 46, 111, 114, 103, 47, 50, 48, 48, 49, 47, 88, 77, 76, 83, 99, 104, 101, 109, 97, 35]⟩ : ByteArray) w
  rwa [show (⟨(Lib.trimPrefix ((⟨#[104, 116, 116, 112, 58, 47, 47, 119, 119, 119, 46, 119, 51, 46, 111, 114, 103, 47, 50, 48, 48, 49, 47, 88, 77, 76, 83, 99, 104, 101, 109, 97, 35, 100, 101, 99, 105, 109, 97, 108]⟩ : ByteArray)).data.toList ((⟨#[104, 116, 116, 112, 58, 47, 47, 119, 119, 119, 46, 119, 51, 46, 111, 114, 103, 47, 50, 48, 48, 49, 47, 88, 77, 76, 83, 99, 104, 101, 109, 97, 35]⟩ : ByteArray)).data.toList).toArray⟩ : ByteArray) = (⟨#[100, 101, 99, 105, 109, 97, 108]⟩ : ByteArray) by kernel_rfl, show Lib.hasPrefix ((⟨#[104, 116, 116, 112, 58, 47, 47, 119, 119, 119, 46, 119, 51, 46, 111, 114, 103, 47, 50, 48, 48, 49, 47, 88, 77, 76, 83, 99, 104, 101, 109, 97, 35, 100, 101, 99, 105, 109, 97, 108]⟩ : ByteArray)).data.toList ((⟨#[104, 116, 116, 112, 58, 47, 47, 119, 119, 119, 46, 119, 51, 46, 111, 114, 103, 47, 50, 48, 48, 49, 47, 88, 77, 76, 83, 99, 104, 101, 109, 97, 35]⟩ : ByteArray)).data.toList = true by kernel_rfl] at this
theorem cut_2 (w : World) : Calls Tryd.prog 33 #[.string (⟨#[104, 116, 116, 112, 58, 47, 47, 119, 119, 119, 46, 119, 51, 46, 111, 114, 103, 47, 50, 48, 48, 49, 47, 88, 77, 76, 83, 99, 104, 101, 109, 97, 35, 105, 110, 116, 101, 103, 101, 114]⟩ : ByteArray), .string (⟨#[104, 116, 116, 112, 58, 47, 47, 119, 119, 119, 46, 119, 51, 46, 111, 114, 103, 47, 50, 48, 48, 49, 47, 88, 77, 76, 83, 99, 104, 101, 109, 97, 35]⟩ : ByteArray)] w fun e w' => e = .returned (.tuple #[.string (⟨#[105, 110, 116, 101, 103, 101, 114]⟩ : ByteArray), .bool true]) ∧ w' = w := by
  have := Tryd.strings_CutPrefix (⟨#[104, 116, 116, 112, 58, 47, 47, 119, 119, 119, 46, 119, 51, 46, 111, 114, 103, 47, 50, 48, 48, 49, 47, 88, 77, 76, 83, 99, 104, 101, 109, 97, 35, 105, 110, 116, 101, 103, 101, 114]⟩ : ByteArray) (⟨#[104, 116, 116, 112, 58, 47, 47, 119, 119, 119, 46, 119, 51, 46, 111, 114, 103, 47, 50, 48, 48, 49, 47, 88, 77, 76, 83, 99, 104, 101, 109, 97, 35]⟩ : ByteArray) w
  rwa [show (⟨(Lib.trimPrefix ((⟨#[104, 116, 116, 112, 58, 47, 47, 119, 119, 119, 46, 119, 51, 46, 111, 114, 103, 47, 50, 48, 48, 49, 47, 88, 77, 76, 83, 99, 104, 101, 109, 97, 35, 105, 110, 116, 101, 103, 101, 114]⟩ : ByteArray)).data.toList ((⟨#[104, 116, 116, 112, 58, 47, 47, 119, 119, 119, 46, 119, 51, 46, 111, 114, 103, 47, 50, 48, 48, 49, 47, 88, 77, 76, 83, 99, 104, 101, 109, 97, 35]⟩ : ByteArray)).data.toList).toArray⟩ : ByteArray) = (⟨#[105, 110, 116, 101, 103, 101, 114]⟩ : ByteArray) by kernel_rfl, show Lib.hasPrefix ((⟨#[104, 116, 116, 112, 58, 47, 47, 119, 119, 119, 46, 119, 51, 46, 111, 114, 103, 47, 50, 48, 48, 49, 47, 88, 77, 76, 83, 99, 104, 101, 109, 97, 35, 105, 110, 116, 101, 103, 101, 114]⟩ : ByteArray)).data.toList ((⟨#[104, 116, 116, 112, 58, 47, 47, 119, 119, 119, 46, 119, 51, 46, 111, 114, 103, 47, 50, 48, 48, 49, 47, 88, 77, 76, 83, 99, 104, 101, 109, 97, 35]⟩ : ByteArray)).data.toList = true by kernel_rfl] at this
theorem cut_3 (w : World) : Calls Tryd.prog 33 #[.string (⟨#[104, 116, 116, 112, 58, 47, 47, 119, 119, 119, 46, 119, 51, 46, 111, 114, 103, 47, 50, 48, 48, 49, 47, 88, 77, 76, 83, 99, 104, 101, 109, 97, 35, 115, 116, 114, 105, 110, 103]⟩ : ByteArray), .string (⟨#[104, 116, 116, 112, 58, 47, 47, 119, 119, 119, 46, 119, 51, 46, 111, 114, 103, 47, 50, 48, 48, 49, 47, 88, 77, 76, 83, 99, 104, 101, 109, 97, 35]⟩ : ByteArray)] w fun e w' => e = .returned (.tuple #[.string (⟨#[115, 116, 114, 105, 110, 103]⟩ : ByteArray), .bool true]) ∧ w' = w := by
  have := Tryd.strings_CutPrefix (⟨#[104, 116, 116, 112, 58, 47, 47, 119, 119, 119, 46, 119, 51, 46, 111, 114, 103, 47, 50, 48, 48, 49, 47, 88, 77, 76, 83, 99, 104, 101, 109, 97, 35, 115, 116, 114, 105, 110, 103]⟩ : ByteArray) (⟨#[104, 116, 116, 112, 58, 47, 47, 119, 119, 119, 46, 119, 51, 46, 111, 114, 103, 47, 50, 48, 48, 49, 47, 88, 77, 76, 83, 99, 104, 101, 109, 97, 35]⟩ : ByteArray) w
  rwa [show (⟨(Lib.trimPrefix ((⟨#[104, 116, 116, 112, 58, 47, 47, 119, 119, 119, 46, 119, 51, 46, 111, 114, 103, 47, 50, 48, 48, 49, 47, 88, 77, 76, 83, 99, 104, 101, 109, 97, 35, 115, 116, 114, 105, 110, 103]⟩ : ByteArray)).data.toList ((⟨#[104, 116, 116, 112, 58, 47, 47, 119, 119, 119, 46, 119, 51, 46, 111, 114, 103, 47, 50, 48, 48, 49, 47, 88, 77, 76, 83, 99, 104, 101, 109, 97, 35]⟩ : ByteArray)).data.toList).toArray⟩ : ByteArray) = (⟨#[115, 116, 114, 105, 110, 103]⟩ : ByteArray) by kernel_rfl, show Lib.hasPrefix ((⟨#[104, 116, 116, 112, 58, 47, 47, 119, 119, 119, 46, 119, 51, 46, 111, 114, 103, 47, 50, 48, 48, 49, 47, 88, 77, 76, 83, 99, 104, 101, 109, 97, 35, 115, 116, 114, 105, 110, 103]⟩ : ByteArray)).data.toList ((⟨#[104, 116, 116, 112, 58, 47, 47, 119, 119, 119, 46, 119, 51, 46, 111, 114, 103, 47, 50, 48, 48, 49, 47, 88, 77, 76, 83, 99, 104, 101, 109, 97, 35]⟩ : ByteArray)).data.toList = true by kernel_rfl] at this
theorem cut_4 (w : World) : Calls Tryd.prog 33 #[.string (⟨#[120, 58, 121]⟩ : ByteArray), .string (⟨#[104, 116, 116, 112, 58, 47, 47, 119, 119, 119, 46, 119, 51, 46, 111, 114, 103, 47, 50, 48, 48, 49, 47, 88, 77, 76, 83, 99, 104, 101, 109, 97, 35]⟩ : ByteArray)] w fun e w' => e = .returned (.tuple #[.string (⟨#[120, 58, 121]⟩ : ByteArray), .bool false]) ∧ w' = w := by
  have := Tryd.strings_CutPrefix (⟨#[120, 58, 121]⟩ : ByteArray) (⟨#[104, 116, 116, 112, 58, 47, 47, 119, 119, 119, 46, 119, 51, 46, 111, 114, 103, 47, 50, 48, 48, 49, 47, 88, 77, 76, 83, 99, 104, 101, 109, 97, 35]⟩ : ByteArray) w
  rwa [show (⟨(Lib.trimPrefix ((⟨#[120, 58, 121]⟩ : ByteArray)).data.toList ((⟨#[104, 116, 116, 112, 58, 47, 47, 119, 119, 119, 46, 119, 51, 46, 111, 114, 103, 47, 50, 48, 48, 49, 47, 88, 77, 76, 83, 99, 104, 101, 109, 97, 35]⟩ : ByteArray)).data.toList).toArray⟩ : ByteArray) = (⟨#[120, 58, 121]⟩ : ByteArray) by kernel_rfl, show Lib.hasPrefix ((⟨#[120, 58, 121]⟩ : ByteArray)).data.toList ((⟨#[104, 116, 116, 112, 58, 47, 47, 119, 119, 119, 46, 119, 51, 46, 111, 114, 103, 47, 50, 48, 48, 49, 47, 88, 77, 76, 83, 99, 104, 101, 109, 97, 35]⟩ : ByteArray)).data.toList = false by kernel_rfl] at this
theorem cut_n (w : World) : Calls Tryd.prog 33 #[.string ⟨#[]⟩, .string (⟨#[104, 116, 116, 112, 58, 47, 47, 119, 119, 119, 46, 119, 51, 46, 111, 114, 103, 47, 50, 48, 48, 49, 47, 88, 77, 76, 83, 99, 104, 101, 109, 97, 35]⟩ : ByteArray)] w fun e w' => e = .returned (.tuple #[.string ⟨#[]⟩, .bool false]) ∧ w' = w := by
  have := Tryd.strings_CutPrefix ⟨#[]⟩ (⟨#[104, 116, 116, 112, 58, 47, 47, 119, 119, 119, 46, 119, 51, 46, 111, 114, 103, 47, 50, 48, 48, 49, 47, 88, 77, 76, 83, 99, 104, 101, 109, 97, 35]⟩ : ByteArray) w
  rwa [show (⟨(Lib.trimPrefix (⟨#[]⟩ : ByteArray).data.toList ((⟨#[104, 116, 116, 112, 58, 47, 47, 119, 119, 119, 46, 119, 51, 46, 111, 114, 103, 47, 50, 48, 48, 49, 47, 88, 77, 76, 83, 99, 104, 101, 109, 97, 35]⟩ : ByteArray)).data.toList).toArray⟩ : ByteArray) = ⟨#[]⟩ by kernel_rfl, show Lib.hasPrefix (⟨#[]⟩ : ByteArray).data.toList ((⟨#[104, 116, 116, 112, 58, 47, 47, 119, 119, 119, 46, 119, 51, 46, 111, 114, 103, 47, 50, 48, 48, 49, 47, 88, 77, 76, 83, 99, 104, 101, 109, 97, 35]⟩ : ByteArray)).data.toList = false by kernel_rfl] at this
set_option maxRecDepth 100000 in
set_option maxHeartbeats 2000000 in
theorem num_0 (s : ByteArray) (w : World) (a : Nat) (b : Bool) (HP : ∀ W, Calls Tryd.prog 34 #[.string s] W (NumP W a b)) : Calls Tryd.prog 18 #[.agg #[.int .i64 5, .string s, .string (⟨#[104, 116, 116, 112, 58, 47, 47, 119, 119, 119, 46, 119, 51, 46, 111, 114, 103, 47, 50, 48, 48, 49, 47, 88, 77, 76, 83, 99, 104, 101, 109, 97, 35, 100, 111, 117, 98, 108, 101]⟩ : ByteArray)]] w (NumP w a b) := by
  have CC := Aside0.mk cut_0
  have CP : Aside0 (∀ W, Calls Tryd.prog 34 #[.string s] W fun e w' => e = .returned (.tuple #[.float .f64 a, .bool b]) ∧ Below W.heap.size W w') := ⟨HP⟩
  obtain ⟨wb, hwb, HB0⟩ := boxT w 5 s (⟨#[104, 116, 116, 112, 58, 47, 47, 119, 119, 119, 46, 119, 51, 46, 111, 114, 103, 47, 50, 48, 48, 49, 47, 88, 77, 76, 83, 99, 104, 101, 109, 97, 35, 100, 111, 117, 98, 108, 101]⟩ : ByteArray)
  have HX0 : Aside0 (BoxedT wb w.heap.size 5 s (⟨#[104, 116, 116, 112, 58, 47, 47, 119, 119, 119, 46, 119, 51, 46, 111, 114, 103, 47, 50, 48, 48, 49, 47, 88, 77, 76, 83, 99, 104, 101, 109, 97, 35, 100, 111, 117, 98, 108, 101]⟩ : ByteArray)) := ⟨by rw [hwb]; exact BoxedT.new w _ _ _ _⟩
  rw [hwb] at HB0 HX0
  obtain ⟨x0, x1, x2⟩ := HX0.out
  clear hwb
  go_enter Tryd.func18, Tryd.ntmps18
  go_wp2_with (first
    | (go_at_call 33; (with_reducible refine (CC.out _).mono ?_); rintro e w1 ⟨rfl, rfl⟩)
    | (go_at_call 34; (with_reducible refine (CP.out _).mono ?_); rintro e w2 ⟨rfl, hb⟩; have HB1 := Aside0.mk (below_then HB0.out HB0.out.size hb); clear hb))
  go_ret2
  exact ⟨rfl, HB1.out⟩
set_option maxRecDepth 100000 in
set_option maxHeartbeats 2000000 in
theorem num_1 (s : ByteArray) (w : World) (a : Nat) (b : Bool) (HP : ∀ W, Calls Tryd.prog 34 #[.string s] W (NumP W a b)) : Calls Tryd.prog 18 #[.agg #[.int .i64 5, .string s, .string (⟨#[104, 116, 116, 112, 58, 47, 47, 119, 119, 119, 46, 119, 51, 46, 111, 114, 103, 47, 50, 48, 48, 49, 47, 88, 77, 76, 83, 99, 104, 101, 109, 97, 35, 100, 101, 99, 105, 109, 97, 108]⟩ : ByteArray)]] w (NumP w a b) := by
  have CC := Aside0.mk cut_1
  have CP : Aside0 (∀ W, Calls Tryd.prog 34 #[.string s] W fun e w' => e = .returned (.tuple #[.float .f64 a, .bool b]) ∧ Below W.heap.size W w') := ⟨HP⟩
  obtain ⟨wb, hwb, HB0⟩ := boxT w 5 s (⟨#[104, 116, 116, 112, 58, 47, 47, 119, 119, 119, 46, 119, 51, 46, 111, 114, 103, 47, 50, 48, 48, 49, 47, 88, 77, 76, 83, 99, 104, 101, 109, 97, 35, 100, 101, 99, 105, 109, 97, 108]⟩ : ByteArray)
  have HX0 : Aside0 (BoxedT wb w.heap.size 5 s (⟨#[104, 116, 116, 112, 58, 47, 47, 119, 119, 119, 46, 119, 51, 46, 111, 114, 103, 47, 50, 48, 48, 49, 47, 88, 77, 76, 83, 99, 104, 101, 109, 97, 35, 100, 101, 99, 105, 109, 97, 108]⟩ : ByteArray)) := ⟨by rw [hwb]; exact BoxedT.new w _ _ _ _⟩
  rw [hwb] at HB0 HX0
  obtain ⟨x0, x1, x2⟩ := HX0.out
  clear hwb
  go_enter Tryd.func18, Tryd.ntmps18
  go_wp2_with (first
    | (go_at_call 33; (with_reducible refine (CC.out _).mono ?_); rintro e w1 ⟨rfl, rfl⟩)
    | (go_at_call 34; (with_reducible refine (CP.out _).mono ?_); rintro e w2 ⟨rfl, hb⟩; have HB1 := Aside0.mk (below_then HB0.out HB0.out.size hb); clear hb))
  go_ret2
  exact ⟨rfl, HB1.out⟩
set_option maxRecDepth 100000 in
set_option maxHeartbeats 2000000 in
theorem num_2 (s : ByteArray) (w : World) (a : Nat) (b : Bool) (HP : ∀ W, Calls Tryd.prog 34 #[.string s] W (NumP W a b)) : Calls Tryd.prog 18 #[.agg #[.int .i64 5, .string s, .string (⟨#[104, 116, 116, 112, 58, 47, 47, 119, 119, 119, 46, 119, 51, 46, 111, 114, 103, 47, 50, 48, 48, 49, 47, 88, 77, 76, 83, 99, 104, 101, 109, 97, 35, 105, 110, 116, 101, 103, 101, 114]⟩ : ByteArray)]] w (NumP w a b) := by
  have CC := Aside0.mk cut_2
  have CP : Aside0 (∀ W, Calls Tryd.prog 34 #[.string s] W fun e w' => e = .returned (.tuple #[.float .f64 a, .bool b]) ∧ Below W.heap.size W w') := ⟨HP⟩
  obtain ⟨wb, hwb, HB0⟩ := boxT w 5 s (⟨#[104, 116, 116, 112, 58, 47, 47, 119, 119, 119, 46, 119, 51, 46, 111, 114, 103, 47, 50, 48, 48, 49, 47, 88, 77, 76, 83, 99, 104, 101, 109, 97, 35, 105, 110, 116, 101, 103, 101, 114]⟩ : ByteArray)
  have HX0 : Aside0 (BoxedT wb w.heap.size 5 s (⟨#[104, 116, 116, 112, 58, 47, 47, 119, 119, 119, 46, 119, 51, 46, 111, 114, 103, 47, 50, 48, 48, 49, 47, 88, 77, 76, 83, 99, 104, 101, 109, 97, 35, 105, 110, 116, 101, 103, 101, 114]⟩ : ByteArray)) := ⟨by rw [hwb]; exact BoxedT.new w _ _ _ _⟩
  rw [hwb] at HB0 HX0
  obtain ⟨x0, x1, x2⟩ := HX0.out
  clear hwb
  go_enter Tryd.func18, Tryd.ntmps18
  go_wp2_with (first
    | (go_at_call 33; (with_reducible refine (CC.out _).mono ?_); rintro e w1 ⟨rfl, rfl⟩)
    | (go_at_call 34; (with_reducible refine (CP.out _).mono ?_); rintro e w2 ⟨rfl, hb⟩; have HB1 := Aside0.mk (below_then HB0.out HB0.out.size hb); clear hb))
  go_ret2
  exact ⟨rfl, HB1.out⟩
set_option maxRecDepth 100000 in
set_option maxHeartbeats 2000000 in
theorem num_3 (s : ByteArray) (w : World) : Calls Tryd.prog 18 #[.agg #[.int .i64 5, .string s, .string (⟨#[104, 116, 116, 112, 58, 47, 47, 119, 119, 119, 46, 119, 51, 46, 111, 114, 103, 47, 50, 48, 48, 49, 47, 88, 77, 76, 83, 99, 104, 101, 109, 97, 35, 115, 116, 114, 105, 110, 103]⟩ : ByteArray)]] w (NumP w 0 false) := by
  have CC := Aside0.mk cut_3
  obtain ⟨wb, hwb, HB0⟩ := boxT w 5 s (⟨#[104, 116, 116, 112, 58, 47, 47, 119, 119, 119, 46, 119, 51, 46, 111, 114, 103, 47, 50, 48, 48, 49, 47, 88, 77, 76, 83, 99, 104, 101, 109, 97, 35, 115, 116, 114, 105, 110, 103]⟩ : ByteArray)
  have HX0 : Aside0 (BoxedT wb w.heap.size 5 s (⟨#[104, 116, 116, 112, 58, 47, 47, 119, 119, 119, 46, 119, 51, 46, 111, 114, 103, 47, 50, 48, 48, 49, 47, 88, 77, 76, 83, 99, 104, 101, 109, 97, 35, 115, 116, 114, 105, 110, 103]⟩ : ByteArray)) := ⟨by rw [hwb]; exact BoxedT.new w _ _ _ _⟩
  rw [hwb] at HB0 HX0
  obtain ⟨x0, x1, x2⟩ := HX0.out
  clear hwb
  go_enter Tryd.func18, Tryd.ntmps18
  go_wp2_with (first
    | (go_at_call 33; (with_reducible refine (CC.out _).mono ?_); rintro e w1 ⟨rfl, rfl⟩))
  go_ret2
  exact ⟨rfl, HB0.out⟩
set_option maxRecDepth 100000 in
set_option maxHeartbeats 2000000 in
theorem num_4 (s : ByteArray) (w : World) : Calls Tryd.prog 18 #[.agg #[.int .i64 5, .string s, .string (⟨#[120, 58, 121]⟩ : ByteArray)]] w (NumP w 0 false) := by
  have CC := Aside0.mk cut_4
  obtain ⟨wb, hwb, HB0⟩ := boxT w 5 s (⟨#[120, 58, 121]⟩ : ByteArray)
  have HX0 : Aside0 (BoxedT wb w.heap.size 5 s (⟨#[120, 58, 121]⟩ : ByteArray)) := ⟨by rw [hwb]; exact BoxedT.new w _ _ _ _⟩
  rw [hwb] at HB0 HX0
  obtain ⟨x0, x1, x2⟩ := HX0.out
  clear hwb
  go_enter Tryd.func18, Tryd.ntmps18
  go_wp2_with (first
    | (go_at_call 33; (with_reducible refine (CC.out _).mono ?_); rintro e w1 ⟨rfl, rfl⟩))
  go_ret2
  exact ⟨rfl, HB0.out⟩
set_option maxRecDepth 100000 in
set_option maxHeartbeats 2000000 in
theorem num_p (s : ByteArray) (w : World) : Calls Tryd.prog 18 #[.agg #[.int .i64 3, .string s, .string ⟨#[]⟩]] w (NumP w 0 false) := by
  have CC := Aside0.mk cut_n
  obtain ⟨wb, hwb, HB0⟩ := boxT w 3 s ⟨#[]⟩
  have HX0 : Aside0 (BoxedT wb w.heap.size 3 s ⟨#[]⟩) := ⟨by rw [hwb]; exact BoxedT.new w _ _ _ _⟩
  rw [hwb] at HB0 HX0
  obtain ⟨x0, x1, x2⟩ := HX0.out
  clear hwb
  go_enter Tryd.func18, Tryd.ntmps18
  go_wp2_with (first
    | (go_at_call 33; (with_reducible refine (CC.out _).mono ?_); rintro e w1 ⟨rfl, rfl⟩))
  go_ret2
  exact ⟨rfl, HB0.out⟩
end Go.Proofs.YtmenjcjpihpjjaaDoor.Tm
