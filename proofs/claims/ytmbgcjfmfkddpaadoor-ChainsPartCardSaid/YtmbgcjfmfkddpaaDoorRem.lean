/-
  2^64 by small numbers: math/bits.Rem64(1, 0, n), number by number. (Printed by wip/gen_rem.py.)
-/
import Derived.Test.YtmbgcjfmfkddpaaDoorProg
import Derived.Test.YtmbgcjfmfkddpaaDoorPc
namespace Go.Proofs.YtmbgcjfmfkddpaaDoor
set_option linter.unusedVariables false
set_option linter.unusedSimpArgs false
open Go Go.RowKit

set_option maxRecDepth 100000 in
theorem Len64_c2 (w : World) : Calls Tryd.prog 43 #[.int .u64 2] w fun e w' => e = .returned (.int .i64 2) ∧ w = w' := by
  go_enter Tryd.func43, Tryd.ntmps43
  go_wp2
  go_ret
  refine ⟨?_, rfl⟩
  exact congrArg (fun x => Ending.returned (.int .i64 x)) (by decide +kernel)
theorem Lead_c2 (w : World) : Calls Tryd.prog 38 #[.int .u64 2] w fun e w' => e = .returned (.int .i64 62) ∧ w = w' := by
  go_enter Tryd.func38, Tryd.ntmps38
  go_wp2_with (go_at_call 43; refine (Len64_c2 _).mono ?_; rintro e w' ⟨rfl, rfl⟩)
  go_ret
  exact ⟨rfl, rfl⟩
set_option maxRecDepth 100000 in
theorem Div64_c2 (w : World) : Calls Tryd.prog 27 #[.int .u64 1, .int .u64 0, .int .u64 2] w fun e w' => (∃ q : Int, e = .returned (.tuple #[.int .u64 q, .int .u64 0])) ∧ w = w' := by
  have hb1 : bits .or .u64 4611686018427387904 0 = 4611686018427387904 := by decide +kernel
  have hb2 : bits .and .u64 9223372036854775808 4294967295 = 0 := by decide +kernel
  have hb3 : bits .and .u64 0 4294967295 = 0 := by decide +kernel
  go_enter Tryd.func27, Tryd.ntmps27
  go_wp2_with (go_at_call 38; refine (Lead_c2 _).mono ?_; rintro e w' ⟨rfl, rfl⟩)
  go_loop [15, 16] (fun a b => a = .int .u64 2147483648 ∧ b = .int .u64 0) (fun _ _ => 0)
  case atStart => exact ⟨congrArg (Value.int .u64) (by decide +kernel), congrArg (Value.int .u64) (by decide +kernel)⟩
  case round =>
    obtain ⟨rfl, rfl⟩ := hrel
    go_wp2
    go_loop [18, 16] (fun a b => a = .int .u64 0 ∧ b = .int .u64 0) (fun _ _ => 0)
    case atStart => exact ⟨congrArg (Value.int .u64) (by decide +kernel), congrArg (Value.int .u64) (by decide +kernel)⟩
    case round =>
      obtain ⟨rfl, rfl⟩ := hrel
      go_wp2
      go_ret2
      exact ⟨⟨9223372036854775808, ret2_u64 (by decide +kernel) (by decide +kernel)⟩, rfl⟩
theorem Rem64_c2 (w : World) : Calls Tryd.prog 23 #[.int .u64 1, .int .u64 0, .int .u64 2] w fun e w' => e = .returned (.int .u64 0) ∧ w = w' := by
  go_enter Tryd.func23, Tryd.ntmps23
  go_wp2_with (go_at_call 27; refine (Div64_c2 _).mono ?_; rintro e w' ⟨⟨q, rfl⟩, rfl⟩)
  go_ret
  exact ⟨rfl, rfl⟩
set_option maxRecDepth 100000 in
theorem Len64_c3 (w : World) : Calls Tryd.prog 43 #[.int .u64 3] w fun e w' => e = .returned (.int .i64 2) ∧ w = w' := by
  go_enter Tryd.func43, Tryd.ntmps43
  go_wp2
  go_ret
  refine ⟨?_, rfl⟩
  exact congrArg (fun x => Ending.returned (.int .i64 x)) (by decide +kernel)
theorem Lead_c3 (w : World) : Calls Tryd.prog 38 #[.int .u64 3] w fun e w' => e = .returned (.int .i64 62) ∧ w = w' := by
  go_enter Tryd.func38, Tryd.ntmps38
  go_wp2_with (go_at_call 43; refine (Len64_c3 _).mono ?_; rintro e w' ⟨rfl, rfl⟩)
  go_ret
  exact ⟨rfl, rfl⟩
set_option maxRecDepth 100000 in
theorem Div64_c3 (w : World) : Calls Tryd.prog 27 #[.int .u64 1, .int .u64 0, .int .u64 3] w fun e w' => (∃ q : Int, e = .returned (.tuple #[.int .u64 q, .int .u64 1])) ∧ w = w' := by
  have hb1 : bits .or .u64 4611686018427387904 0 = 4611686018427387904 := by decide +kernel
  have hb2 : bits .and .u64 13835058055282163712 4294967295 = 0 := by decide +kernel
  have hb3 : bits .and .u64 0 4294967295 = 0 := by decide +kernel
  go_enter Tryd.func27, Tryd.ntmps27
  go_wp2_with (go_at_call 38; refine (Lead_c3 _).mono ?_; rintro e w' ⟨rfl, rfl⟩)
  go_loop [15, 16] (fun a b => a = .int .u64 1431655765 ∧ b = .int .u64 1073741824) (fun _ _ => 0)
  case atStart => exact ⟨congrArg (Value.int .u64) (by decide +kernel), congrArg (Value.int .u64) (by decide +kernel)⟩
  case round =>
    obtain ⟨rfl, rfl⟩ := hrel
    go_wp2
    go_loop [18, 16] (fun a b => a = .int .u64 1431655765 ∧ b = .int .u64 1073741824) (fun _ _ => 0)
    case atStart => exact ⟨congrArg (Value.int .u64) (by decide +kernel), congrArg (Value.int .u64) (by decide +kernel)⟩
    case round =>
      obtain ⟨rfl, rfl⟩ := hrel
      go_wp2
      go_ret2
      exact ⟨⟨6148914691236517205, ret2_u64 (by decide +kernel) (by decide +kernel)⟩, rfl⟩
theorem Rem64_c3 (w : World) : Calls Tryd.prog 23 #[.int .u64 1, .int .u64 0, .int .u64 3] w fun e w' => e = .returned (.int .u64 1) ∧ w = w' := by
  go_enter Tryd.func23, Tryd.ntmps23
  go_wp2_with (go_at_call 27; refine (Div64_c3 _).mono ?_; rintro e w' ⟨⟨q, rfl⟩, rfl⟩)
  go_ret
  exact ⟨rfl, rfl⟩
set_option maxRecDepth 100000 in
theorem Len64_c4 (w : World) : Calls Tryd.prog 43 #[.int .u64 4] w fun e w' => e = .returned (.int .i64 3) ∧ w = w' := by
  go_enter Tryd.func43, Tryd.ntmps43
  go_wp2
  go_ret
  refine ⟨?_, rfl⟩
  exact congrArg (fun x => Ending.returned (.int .i64 x)) (by decide +kernel)
theorem Lead_c4 (w : World) : Calls Tryd.prog 38 #[.int .u64 4] w fun e w' => e = .returned (.int .i64 61) ∧ w = w' := by
  go_enter Tryd.func38, Tryd.ntmps38
  go_wp2_with (go_at_call 43; refine (Len64_c4 _).mono ?_; rintro e w' ⟨rfl, rfl⟩)
  go_ret
  exact ⟨rfl, rfl⟩
set_option maxRecDepth 100000 in
theorem Div64_c4 (w : World) : Calls Tryd.prog 27 #[.int .u64 1, .int .u64 0, .int .u64 4] w fun e w' => (∃ q : Int, e = .returned (.tuple #[.int .u64 q, .int .u64 0])) ∧ w = w' := by
  have hb1 : bits .or .u64 2305843009213693952 0 = 2305843009213693952 := by decide +kernel
  have hb2 : bits .and .u64 9223372036854775808 4294967295 = 0 := by decide +kernel
  have hb3 : bits .and .u64 0 4294967295 = 0 := by decide +kernel
  go_enter Tryd.func27, Tryd.ntmps27
  go_wp2_with (go_at_call 38; refine (Lead_c4 _).mono ?_; rintro e w' ⟨rfl, rfl⟩)
  go_loop [15, 16] (fun a b => a = .int .u64 1073741824 ∧ b = .int .u64 0) (fun _ _ => 0)
  case atStart => exact ⟨congrArg (Value.int .u64) (by decide +kernel), congrArg (Value.int .u64) (by decide +kernel)⟩
  case round =>
    obtain ⟨rfl, rfl⟩ := hrel
    go_wp2
    go_loop [18, 16] (fun a b => a = .int .u64 0 ∧ b = .int .u64 0) (fun _ _ => 0)
    case atStart => exact ⟨congrArg (Value.int .u64) (by decide +kernel), congrArg (Value.int .u64) (by decide +kernel)⟩
    case round =>
      obtain ⟨rfl, rfl⟩ := hrel
      go_wp2
      go_ret2
      exact ⟨⟨4611686018427387904, ret2_u64 (by decide +kernel) (by decide +kernel)⟩, rfl⟩
theorem Rem64_c4 (w : World) : Calls Tryd.prog 23 #[.int .u64 1, .int .u64 0, .int .u64 4] w fun e w' => e = .returned (.int .u64 0) ∧ w = w' := by
  go_enter Tryd.func23, Tryd.ntmps23
  go_wp2_with (go_at_call 27; refine (Div64_c4 _).mono ?_; rintro e w' ⟨⟨q, rfl⟩, rfl⟩)
  go_ret
  exact ⟨rfl, rfl⟩
set_option maxRecDepth 100000 in
theorem Len64_c5 (w : World) : Calls Tryd.prog 43 #[.int .u64 5] w fun e w' => e = .returned (.int .i64 3) ∧ w = w' := by
  go_enter Tryd.func43, Tryd.ntmps43
  go_wp2
  go_ret
  refine ⟨?_, rfl⟩
  exact congrArg (fun x => Ending.returned (.int .i64 x)) (by decide +kernel)
theorem Lead_c5 (w : World) : Calls Tryd.prog 38 #[.int .u64 5] w fun e w' => e = .returned (.int .i64 61) ∧ w = w' := by
  go_enter Tryd.func38, Tryd.ntmps38
  go_wp2_with (go_at_call 43; refine (Len64_c5 _).mono ?_; rintro e w' ⟨rfl, rfl⟩)
  go_ret
  exact ⟨rfl, rfl⟩
set_option maxRecDepth 100000 in
theorem Div64_c5 (w : World) : Calls Tryd.prog 27 #[.int .u64 1, .int .u64 0, .int .u64 5] w fun e w' => (∃ q : Int, e = .returned (.tuple #[.int .u64 q, .int .u64 1])) ∧ w = w' := by
  have hb1 : bits .or .u64 2305843009213693952 0 = 2305843009213693952 := by decide +kernel
  have hb2 : bits .and .u64 11529215046068469760 4294967295 = 0 := by decide +kernel
  have hb3 : bits .and .u64 0 4294967295 = 0 := by decide +kernel
  go_enter Tryd.func27, Tryd.ntmps27
  go_wp2_with (go_at_call 38; refine (Lead_c5 _).mono ?_; rintro e w' ⟨rfl, rfl⟩)
  go_loop [15, 16] (fun a b => a = .int .u64 858993459 ∧ b = .int .u64 536870912) (fun _ _ => 0)
  case atStart => exact ⟨congrArg (Value.int .u64) (by decide +kernel), congrArg (Value.int .u64) (by decide +kernel)⟩
  case round =>
    obtain ⟨rfl, rfl⟩ := hrel
    go_wp2
    go_loop [18, 16] (fun a b => a = .int .u64 858993459 ∧ b = .int .u64 536870912) (fun _ _ => 0)
    case atStart => exact ⟨congrArg (Value.int .u64) (by decide +kernel), congrArg (Value.int .u64) (by decide +kernel)⟩
    case round =>
      obtain ⟨rfl, rfl⟩ := hrel
      go_wp2
      go_ret2
      exact ⟨⟨3689348814741910323, ret2_u64 (by decide +kernel) (by decide +kernel)⟩, rfl⟩
theorem Rem64_c5 (w : World) : Calls Tryd.prog 23 #[.int .u64 1, .int .u64 0, .int .u64 5] w fun e w' => e = .returned (.int .u64 1) ∧ w = w' := by
  go_enter Tryd.func23, Tryd.ntmps23
  go_wp2_with (go_at_call 27; refine (Div64_c5 _).mono ?_; rintro e w' ⟨⟨q, rfl⟩, rfl⟩)
  go_ret
  exact ⟨rfl, rfl⟩
set_option maxRecDepth 100000 in
theorem Len64_c6 (w : World) : Calls Tryd.prog 43 #[.int .u64 6] w fun e w' => e = .returned (.int .i64 3) ∧ w = w' := by
  go_enter Tryd.func43, Tryd.ntmps43
  go_wp2
  go_ret
  refine ⟨?_, rfl⟩
  exact congrArg (fun x => Ending.returned (.int .i64 x)) (by decide +kernel)
theorem Lead_c6 (w : World) : Calls Tryd.prog 38 #[.int .u64 6] w fun e w' => e = .returned (.int .i64 61) ∧ w = w' := by
  go_enter Tryd.func38, Tryd.ntmps38
  go_wp2_with (go_at_call 43; refine (Len64_c6 _).mono ?_; rintro e w' ⟨rfl, rfl⟩)
  go_ret
  exact ⟨rfl, rfl⟩
set_option maxRecDepth 100000 in
theorem Div64_c6 (w : World) : Calls Tryd.prog 27 #[.int .u64 1, .int .u64 0, .int .u64 6] w fun e w' => (∃ q : Int, e = .returned (.tuple #[.int .u64 q, .int .u64 4])) ∧ w = w' := by
  have hb1 : bits .or .u64 2305843009213693952 0 = 2305843009213693952 := by decide +kernel
  have hb2 : bits .and .u64 13835058055282163712 4294967295 = 0 := by decide +kernel
  have hb3 : bits .and .u64 0 4294967295 = 0 := by decide +kernel
  go_enter Tryd.func27, Tryd.ntmps27
  go_wp2_with (go_at_call 38; refine (Lead_c6 _).mono ?_; rintro e w' ⟨rfl, rfl⟩)
  go_loop [15, 16] (fun a b => a = .int .u64 715827882 ∧ b = .int .u64 2147483648) (fun _ _ => 0)
  case atStart => exact ⟨congrArg (Value.int .u64) (by decide +kernel), congrArg (Value.int .u64) (by decide +kernel)⟩
  case round =>
    obtain ⟨rfl, rfl⟩ := hrel
    go_wp2
    go_loop [18, 16] (fun a b => a = .int .u64 2863311530 ∧ b = .int .u64 2147483648) (fun _ _ => 0)
    case atStart => exact ⟨congrArg (Value.int .u64) (by decide +kernel), congrArg (Value.int .u64) (by decide +kernel)⟩
    case round =>
      obtain ⟨rfl, rfl⟩ := hrel
      go_wp2
      go_ret2
      exact ⟨⟨3074457345618258602, ret2_u64 (by decide +kernel) (by decide +kernel)⟩, rfl⟩
theorem Rem64_c6 (w : World) : Calls Tryd.prog 23 #[.int .u64 1, .int .u64 0, .int .u64 6] w fun e w' => e = .returned (.int .u64 4) ∧ w = w' := by
  go_enter Tryd.func23, Tryd.ntmps23
  go_wp2_with (go_at_call 27; refine (Div64_c6 _).mono ?_; rintro e w' ⟨⟨q, rfl⟩, rfl⟩)
  go_ret
  exact ⟨rfl, rfl⟩
set_option maxRecDepth 100000 in
theorem Len64_c7 (w : World) : Calls Tryd.prog 43 #[.int .u64 7] w fun e w' => e = .returned (.int .i64 3) ∧ w = w' := by
  go_enter Tryd.func43, Tryd.ntmps43
  go_wp2
  go_ret
  refine ⟨?_, rfl⟩
  exact congrArg (fun x => Ending.returned (.int .i64 x)) (by decide +kernel)
theorem Lead_c7 (w : World) : Calls Tryd.prog 38 #[.int .u64 7] w fun e w' => e = .returned (.int .i64 61) ∧ w = w' := by
  go_enter Tryd.func38, Tryd.ntmps38
  go_wp2_with (go_at_call 43; refine (Len64_c7 _).mono ?_; rintro e w' ⟨rfl, rfl⟩)
  go_ret
  exact ⟨rfl, rfl⟩
set_option maxRecDepth 100000 in
theorem Div64_c7 (w : World) : Calls Tryd.prog 27 #[.int .u64 1, .int .u64 0, .int .u64 7] w fun e w' => (∃ q : Int, e = .returned (.tuple #[.int .u64 q, .int .u64 2])) ∧ w = w' := by
  have hb1 : bits .or .u64 2305843009213693952 0 = 2305843009213693952 := by decide +kernel
  have hb2 : bits .and .u64 16140901064495857664 4294967295 = 0 := by decide +kernel
  have hb3 : bits .and .u64 0 4294967295 = 0 := by decide +kernel
  go_enter Tryd.func27, Tryd.ntmps27
  go_wp2_with (go_at_call 38; refine (Lead_c7 _).mono ?_; rintro e w' ⟨rfl, rfl⟩)
  go_loop [15, 16] (fun a b => a = .int .u64 613566756 ∧ b = .int .u64 2147483648) (fun _ _ => 0)
  case atStart => exact ⟨congrArg (Value.int .u64) (by decide +kernel), congrArg (Value.int .u64) (by decide +kernel)⟩
  case round =>
    obtain ⟨rfl, rfl⟩ := hrel
    go_wp2
    go_loop [18, 16] (fun a b => a = .int .u64 2454267026 ∧ b = .int .u64 1073741824) (fun _ _ => 0)
    case atStart => exact ⟨congrArg (Value.int .u64) (by decide +kernel), congrArg (Value.int .u64) (by decide +kernel)⟩
    case round =>
      obtain ⟨rfl, rfl⟩ := hrel
      go_wp2
      go_ret2
      exact ⟨⟨2635249153387078802, ret2_u64 (by decide +kernel) (by decide +kernel)⟩, rfl⟩
theorem Rem64_c7 (w : World) : Calls Tryd.prog 23 #[.int .u64 1, .int .u64 0, .int .u64 7] w fun e w' => e = .returned (.int .u64 2) ∧ w = w' := by
  go_enter Tryd.func23, Tryd.ntmps23
  go_wp2_with (go_at_call 27; refine (Div64_c7 _).mono ?_; rintro e w' ⟨⟨q, rfl⟩, rfl⟩)
  go_ret
  exact ⟨rfl, rfl⟩
set_option maxRecDepth 100000 in
theorem Len64_c8 (w : World) : Calls Tryd.prog 43 #[.int .u64 8] w fun e w' => e = .returned (.int .i64 4) ∧ w = w' := by
  go_enter Tryd.func43, Tryd.ntmps43
  go_wp2
  go_ret
  refine ⟨?_, rfl⟩
  exact congrArg (fun x => Ending.returned (.int .i64 x)) (by decide +kernel)
theorem Lead_c8 (w : World) : Calls Tryd.prog 38 #[.int .u64 8] w fun e w' => e = .returned (.int .i64 60) ∧ w = w' := by
  go_enter Tryd.func38, Tryd.ntmps38
  go_wp2_with (go_at_call 43; refine (Len64_c8 _).mono ?_; rintro e w' ⟨rfl, rfl⟩)
  go_ret
  exact ⟨rfl, rfl⟩
set_option maxRecDepth 100000 in
theorem Div64_c8 (w : World) : Calls Tryd.prog 27 #[.int .u64 1, .int .u64 0, .int .u64 8] w fun e w' => (∃ q : Int, e = .returned (.tuple #[.int .u64 q, .int .u64 0])) ∧ w = w' := by
  have hb1 : bits .or .u64 1152921504606846976 0 = 1152921504606846976 := by decide +kernel
  have hb2 : bits .and .u64 9223372036854775808 4294967295 = 0 := by decide +kernel
  have hb3 : bits .and .u64 0 4294967295 = 0 := by decide +kernel
  go_enter Tryd.func27, Tryd.ntmps27
  go_wp2_with (go_at_call 38; refine (Lead_c8 _).mono ?_; rintro e w' ⟨rfl, rfl⟩)
  go_loop [15, 16] (fun a b => a = .int .u64 536870912 ∧ b = .int .u64 0) (fun _ _ => 0)
  case atStart => exact ⟨congrArg (Value.int .u64) (by decide +kernel), congrArg (Value.int .u64) (by decide +kernel)⟩
  case round =>
    obtain ⟨rfl, rfl⟩ := hrel
    go_wp2
    go_loop [18, 16] (fun a b => a = .int .u64 0 ∧ b = .int .u64 0) (fun _ _ => 0)
    case atStart => exact ⟨congrArg (Value.int .u64) (by decide +kernel), congrArg (Value.int .u64) (by decide +kernel)⟩
    case round =>
      obtain ⟨rfl, rfl⟩ := hrel
      go_wp2
      go_ret2
      exact ⟨⟨2305843009213693952, ret2_u64 (by decide +kernel) (by decide +kernel)⟩, rfl⟩
theorem Rem64_c8 (w : World) : Calls Tryd.prog 23 #[.int .u64 1, .int .u64 0, .int .u64 8] w fun e w' => e = .returned (.int .u64 0) ∧ w = w' := by
  go_enter Tryd.func23, Tryd.ntmps23
  go_wp2_with (go_at_call 27; refine (Div64_c8 _).mono ?_; rintro e w' ⟨⟨q, rfl⟩, rfl⟩)
  go_ret
  exact ⟨rfl, rfl⟩
set_option maxRecDepth 100000 in
theorem Len64_c9 (w : World) : Calls Tryd.prog 43 #[.int .u64 9] w fun e w' => e = .returned (.int .i64 4) ∧ w = w' := by
  go_enter Tryd.func43, Tryd.ntmps43
  go_wp2
  go_ret
  refine ⟨?_, rfl⟩
  exact congrArg (fun x => Ending.returned (.int .i64 x)) (by decide +kernel)
theorem Lead_c9 (w : World) : Calls Tryd.prog 38 #[.int .u64 9] w fun e w' => e = .returned (.int .i64 60) ∧ w = w' := by
  go_enter Tryd.func38, Tryd.ntmps38
  go_wp2_with (go_at_call 43; refine (Len64_c9 _).mono ?_; rintro e w' ⟨rfl, rfl⟩)
  go_ret
  exact ⟨rfl, rfl⟩
set_option maxRecDepth 100000 in
theorem Div64_c9 (w : World) : Calls Tryd.prog 27 #[.int .u64 1, .int .u64 0, .int .u64 9] w fun e w' => (∃ q : Int, e = .returned (.tuple #[.int .u64 q, .int .u64 7])) ∧ w = w' := by
  have hb1 : bits .or .u64 1152921504606846976 0 = 1152921504606846976 := by decide +kernel
  have hb2 : bits .and .u64 10376293541461622784 4294967295 = 0 := by decide +kernel
  have hb3 : bits .and .u64 0 4294967295 = 0 := by decide +kernel
  go_enter Tryd.func27, Tryd.ntmps27
  go_wp2_with (go_at_call 38; refine (Lead_c9 _).mono ?_; rintro e w' ⟨rfl, rfl⟩)
  go_loop [15, 16] (fun a b => a = .int .u64 477218588 ∧ b = .int .u64 1073741824) (fun _ _ => 0)
  case atStart => exact ⟨congrArg (Value.int .u64) (by decide +kernel), congrArg (Value.int .u64) (by decide +kernel)⟩
  case round =>
    obtain ⟨rfl, rfl⟩ := hrel
    go_wp2
    go_loop [18, 16] (fun a b => a = .int .u64 1908874353 ∧ b = .int .u64 1879048192) (fun _ _ => 0)
    case atStart => exact ⟨congrArg (Value.int .u64) (by decide +kernel), congrArg (Value.int .u64) (by decide +kernel)⟩
    case round =>
      obtain ⟨rfl, rfl⟩ := hrel
      go_wp2
      go_ret2
      exact ⟨⟨2049638230412172401, ret2_u64 (by decide +kernel) (by decide +kernel)⟩, rfl⟩
theorem Rem64_c9 (w : World) : Calls Tryd.prog 23 #[.int .u64 1, .int .u64 0, .int .u64 9] w fun e w' => e = .returned (.int .u64 7) ∧ w = w' := by
  go_enter Tryd.func23, Tryd.ntmps23
  go_wp2_with (go_at_call 27; refine (Div64_c9 _).mono ?_; rintro e w' ⟨⟨q, rfl⟩, rfl⟩)
  go_ret
  exact ⟨rfl, rfl⟩
set_option maxRecDepth 100000 in
theorem Len64_c10 (w : World) : Calls Tryd.prog 43 #[.int .u64 10] w fun e w' => e = .returned (.int .i64 4) ∧ w = w' := by
  go_enter Tryd.func43, Tryd.ntmps43
  go_wp2
  go_ret
  refine ⟨?_, rfl⟩
  exact congrArg (fun x => Ending.returned (.int .i64 x)) (by decide +kernel)
theorem Lead_c10 (w : World) : Calls Tryd.prog 38 #[.int .u64 10] w fun e w' => e = .returned (.int .i64 60) ∧ w = w' := by
  go_enter Tryd.func38, Tryd.ntmps38
  go_wp2_with (go_at_call 43; refine (Len64_c10 _).mono ?_; rintro e w' ⟨rfl, rfl⟩)
  go_ret
  exact ⟨rfl, rfl⟩
set_option maxRecDepth 100000 in
theorem Div64_c10 (w : World) : Calls Tryd.prog 27 #[.int .u64 1, .int .u64 0, .int .u64 10] w fun e w' => (∃ q : Int, e = .returned (.tuple #[.int .u64 q, .int .u64 6])) ∧ w = w' := by
  have hb1 : bits .or .u64 1152921504606846976 0 = 1152921504606846976 := by decide +kernel
  have hb2 : bits .and .u64 11529215046068469760 4294967295 = 0 := by decide +kernel
  have hb3 : bits .and .u64 0 4294967295 = 0 := by decide +kernel
  go_enter Tryd.func27, Tryd.ntmps27
  go_wp2_with (go_at_call 38; refine (Lead_c10 _).mono ?_; rintro e w' ⟨rfl, rfl⟩)
  go_loop [15, 16] (fun a b => a = .int .u64 429496729 ∧ b = .int .u64 1610612736) (fun _ _ => 0)
  case atStart => exact ⟨congrArg (Value.int .u64) (by decide +kernel), congrArg (Value.int .u64) (by decide +kernel)⟩
  case round =>
    obtain ⟨rfl, rfl⟩ := hrel
    go_wp2
    go_loop [18, 16] (fun a b => a = .int .u64 2576980377 ∧ b = .int .u64 1610612736) (fun _ _ => 0)
    case atStart => exact ⟨congrArg (Value.int .u64) (by decide +kernel), congrArg (Value.int .u64) (by decide +kernel)⟩
    case round =>
      obtain ⟨rfl, rfl⟩ := hrel
      go_wp2
      go_ret2
      exact ⟨⟨1844674407370955161, ret2_u64 (by decide +kernel) (by decide +kernel)⟩, rfl⟩
theorem Rem64_c10 (w : World) : Calls Tryd.prog 23 #[.int .u64 1, .int .u64 0, .int .u64 10] w fun e w' => e = .returned (.int .u64 6) ∧ w = w' := by
  go_enter Tryd.func23, Tryd.ntmps23
  go_wp2_with (go_at_call 27; refine (Div64_c10 _).mono ?_; rintro e w' ⟨⟨q, rfl⟩, rfl⟩)
  go_ret
  exact ⟨rfl, rfl⟩
set_option maxRecDepth 100000 in
theorem Len64_c11 (w : World) : Calls Tryd.prog 43 #[.int .u64 11] w fun e w' => e = .returned (.int .i64 4) ∧ w = w' := by
  go_enter Tryd.func43, Tryd.ntmps43
  go_wp2
  go_ret
  refine ⟨?_, rfl⟩
  exact congrArg (fun x => Ending.returned (.int .i64 x)) (by decide +kernel)
theorem Lead_c11 (w : World) : Calls Tryd.prog 38 #[.int .u64 11] w fun e w' => e = .returned (.int .i64 60) ∧ w = w' := by
  go_enter Tryd.func38, Tryd.ntmps38
  go_wp2_with (go_at_call 43; refine (Len64_c11 _).mono ?_; rintro e w' ⟨rfl, rfl⟩)
  go_ret
  exact ⟨rfl, rfl⟩
set_option maxRecDepth 100000 in
theorem Div64_c11 (w : World) : Calls Tryd.prog 27 #[.int .u64 1, .int .u64 0, .int .u64 11] w fun e w' => (∃ q : Int, e = .returned (.tuple #[.int .u64 q, .int .u64 5])) ∧ w = w' := by
  have hb1 : bits .or .u64 1152921504606846976 0 = 1152921504606846976 := by decide +kernel
  have hb2 : bits .and .u64 12682136550675316736 4294967295 = 0 := by decide +kernel
  have hb3 : bits .and .u64 0 4294967295 = 0 := by decide +kernel
  go_enter Tryd.func27, Tryd.ntmps27
  go_wp2_with (go_at_call 38; refine (Lead_c11 _).mono ?_; rintro e w' ⟨rfl, rfl⟩)
  go_loop [15, 16] (fun a b => a = .int .u64 390451572 ∧ b = .int .u64 1073741824) (fun _ _ => 0)
  case atStart => exact ⟨congrArg (Value.int .u64) (by decide +kernel), congrArg (Value.int .u64) (by decide +kernel)⟩
  case round =>
    obtain ⟨rfl, rfl⟩ := hrel
    go_wp2
    go_loop [18, 16] (fun a b => a = .int .u64 1561806289 ∧ b = .int .u64 1342177280) (fun _ _ => 0)
    case atStart => exact ⟨congrArg (Value.int .u64) (by decide +kernel), congrArg (Value.int .u64) (by decide +kernel)⟩
    case round =>
      obtain ⟨rfl, rfl⟩ := hrel
      go_wp2
      go_ret2
      exact ⟨⟨1676976733973595601, ret2_u64 (by decide +kernel) (by decide +kernel)⟩, rfl⟩
theorem Rem64_c11 (w : World) : Calls Tryd.prog 23 #[.int .u64 1, .int .u64 0, .int .u64 11] w fun e w' => e = .returned (.int .u64 5) ∧ w = w' := by
  go_enter Tryd.func23, Tryd.ntmps23
  go_wp2_with (go_at_call 27; refine (Div64_c11 _).mono ?_; rintro e w' ⟨⟨q, rfl⟩, rfl⟩)
  go_ret
  exact ⟨rfl, rfl⟩
set_option maxRecDepth 100000 in
theorem Len64_c12 (w : World) : Calls Tryd.prog 43 #[.int .u64 12] w fun e w' => e = .returned (.int .i64 4) ∧ w = w' := by
  go_enter Tryd.func43, Tryd.ntmps43
  go_wp2
  go_ret
  refine ⟨?_, rfl⟩
  exact congrArg (fun x => Ending.returned (.int .i64 x)) (by decide +kernel)
theorem Lead_c12 (w : World) : Calls Tryd.prog 38 #[.int .u64 12] w fun e w' => e = .returned (.int .i64 60) ∧ w = w' := by
  go_enter Tryd.func38, Tryd.ntmps38
  go_wp2_with (go_at_call 43; refine (Len64_c12 _).mono ?_; rintro e w' ⟨rfl, rfl⟩)
  go_ret
  exact ⟨rfl, rfl⟩
set_option maxRecDepth 100000 in
theorem Div64_c12 (w : World) : Calls Tryd.prog 27 #[.int .u64 1, .int .u64 0, .int .u64 12] w fun e w' => (∃ q : Int, e = .returned (.tuple #[.int .u64 q, .int .u64 4])) ∧ w = w' := by
  have hb1 : bits .or .u64 1152921504606846976 0 = 1152921504606846976 := by decide +kernel
  have hb2 : bits .and .u64 13835058055282163712 4294967295 = 0 := by decide +kernel
  have hb3 : bits .and .u64 0 4294967295 = 0 := by decide +kernel
  go_enter Tryd.func27, Tryd.ntmps27
  go_wp2_with (go_at_call 38; refine (Lead_c12 _).mono ?_; rintro e w' ⟨rfl, rfl⟩)
  go_loop [15, 16] (fun a b => a = .int .u64 357913941 ∧ b = .int .u64 1073741824) (fun _ _ => 0)
  case atStart => exact ⟨congrArg (Value.int .u64) (by decide +kernel), congrArg (Value.int .u64) (by decide +kernel)⟩
  case round =>
    obtain ⟨rfl, rfl⟩ := hrel
    go_wp2
    go_loop [18, 16] (fun a b => a = .int .u64 1431655765 ∧ b = .int .u64 1073741824) (fun _ _ => 0)
    case atStart => exact ⟨congrArg (Value.int .u64) (by decide +kernel), congrArg (Value.int .u64) (by decide +kernel)⟩
    case round =>
      obtain ⟨rfl, rfl⟩ := hrel
      go_wp2
      go_ret2
      exact ⟨⟨1537228672809129301, ret2_u64 (by decide +kernel) (by decide +kernel)⟩, rfl⟩
theorem Rem64_c12 (w : World) : Calls Tryd.prog 23 #[.int .u64 1, .int .u64 0, .int .u64 12] w fun e w' => e = .returned (.int .u64 4) ∧ w = w' := by
  go_enter Tryd.func23, Tryd.ntmps23
  go_wp2_with (go_at_call 27; refine (Div64_c12 _).mono ?_; rintro e w' ⟨⟨q, rfl⟩, rfl⟩)
  go_ret
  exact ⟨rfl, rfl⟩
set_option maxRecDepth 100000 in
theorem Len64_c13 (w : World) : Calls Tryd.prog 43 #[.int .u64 13] w fun e w' => e = .returned (.int .i64 4) ∧ w = w' := by
  go_enter Tryd.func43, Tryd.ntmps43
  go_wp2
  go_ret
  refine ⟨?_, rfl⟩
  exact congrArg (fun x => Ending.returned (.int .i64 x)) (by decide +kernel)
theorem Lead_c13 (w : World) : Calls Tryd.prog 38 #[.int .u64 13] w fun e w' => e = .returned (.int .i64 60) ∧ w = w' := by
  go_enter Tryd.func38, Tryd.ntmps38
  go_wp2_with (go_at_call 43; refine (Len64_c13 _).mono ?_; rintro e w' ⟨rfl, rfl⟩)
  go_ret
  exact ⟨rfl, rfl⟩
set_option maxRecDepth 100000 in
theorem Div64_c13 (w : World) : Calls Tryd.prog 27 #[.int .u64 1, .int .u64 0, .int .u64 13] w fun e w' => (∃ q : Int, e = .returned (.tuple #[.int .u64 q, .int .u64 3])) ∧ w = w' := by
  have hb1 : bits .or .u64 1152921504606846976 0 = 1152921504606846976 := by decide +kernel
  have hb2 : bits .and .u64 14987979559889010688 4294967295 = 0 := by decide +kernel
  have hb3 : bits .and .u64 0 4294967295 = 0 := by decide +kernel
  go_enter Tryd.func27, Tryd.ntmps27
  go_wp2_with (go_at_call 38; refine (Lead_c13 _).mono ?_; rintro e w' ⟨rfl, rfl⟩)
  go_loop [15, 16] (fun a b => a = .int .u64 330382099 ∧ b = .int .u64 2415919104) (fun _ _ => 0)
  case atStart => exact ⟨congrArg (Value.int .u64) (by decide +kernel), congrArg (Value.int .u64) (by decide +kernel)⟩
  case round =>
    obtain ⟨rfl, rfl⟩ := hrel
    go_wp2
    go_loop [18, 16] (fun a b => a = .int .u64 2973438897 ∧ b = .int .u64 805306368) (fun _ _ => 0)
    case atStart => exact ⟨congrArg (Value.int .u64) (by decide +kernel), congrArg (Value.int .u64) (by decide +kernel)⟩
    case round =>
      obtain ⟨rfl, rfl⟩ := hrel
      go_wp2
      go_ret2
      exact ⟨⟨1418980313362273201, ret2_u64 (by decide +kernel) (by decide +kernel)⟩, rfl⟩
theorem Rem64_c13 (w : World) : Calls Tryd.prog 23 #[.int .u64 1, .int .u64 0, .int .u64 13] w fun e w' => e = .returned (.int .u64 3) ∧ w = w' := by
  go_enter Tryd.func23, Tryd.ntmps23
  go_wp2_with (go_at_call 27; refine (Div64_c13 _).mono ?_; rintro e w' ⟨⟨q, rfl⟩, rfl⟩)
  go_ret
  exact ⟨rfl, rfl⟩
set_option maxRecDepth 100000 in
theorem Len64_c14 (w : World) : Calls Tryd.prog 43 #[.int .u64 14] w fun e w' => e = .returned (.int .i64 4) ∧ w = w' := by
  go_enter Tryd.func43, Tryd.ntmps43
  go_wp2
  go_ret
  refine ⟨?_, rfl⟩
  exact congrArg (fun x => Ending.returned (.int .i64 x)) (by decide +kernel)
theorem Lead_c14 (w : World) : Calls Tryd.prog 38 #[.int .u64 14] w fun e w' => e = .returned (.int .i64 60) ∧ w = w' := by
  go_enter Tryd.func38, Tryd.ntmps38
  go_wp2_with (go_at_call 43; refine (Len64_c14 _).mono ?_; rintro e w' ⟨rfl, rfl⟩)
  go_ret
  exact ⟨rfl, rfl⟩
set_option maxRecDepth 100000 in
theorem Div64_c14 (w : World) : Calls Tryd.prog 27 #[.int .u64 1, .int .u64 0, .int .u64 14] w fun e w' => (∃ q : Int, e = .returned (.tuple #[.int .u64 q, .int .u64 2])) ∧ w = w' := by
  have hb1 : bits .or .u64 1152921504606846976 0 = 1152921504606846976 := by decide +kernel
  have hb2 : bits .and .u64 16140901064495857664 4294967295 = 0 := by decide +kernel
  have hb3 : bits .and .u64 0 4294967295 = 0 := by decide +kernel
  go_enter Tryd.func27, Tryd.ntmps27
  go_wp2_with (go_at_call 38; refine (Lead_c14 _).mono ?_; rintro e w' ⟨rfl, rfl⟩)
  go_loop [15, 16] (fun a b => a = .int .u64 306783378 ∧ b = .int .u64 1073741824) (fun _ _ => 0)
  case atStart => exact ⟨congrArg (Value.int .u64) (by decide +kernel), congrArg (Value.int .u64) (by decide +kernel)⟩
  case round =>
    obtain ⟨rfl, rfl⟩ := hrel
    go_wp2
    go_loop [18, 16] (fun a b => a = .int .u64 1227133513 ∧ b = .int .u64 536870912) (fun _ _ => 0)
    case atStart => exact ⟨congrArg (Value.int .u64) (by decide +kernel), congrArg (Value.int .u64) (by decide +kernel)⟩
    case round =>
      obtain ⟨rfl, rfl⟩ := hrel
      go_wp2
      go_ret2
      exact ⟨⟨1317624576693539401, ret2_u64 (by decide +kernel) (by decide +kernel)⟩, rfl⟩
theorem Rem64_c14 (w : World) : Calls Tryd.prog 23 #[.int .u64 1, .int .u64 0, .int .u64 14] w fun e w' => e = .returned (.int .u64 2) ∧ w = w' := by
  go_enter Tryd.func23, Tryd.ntmps23
  go_wp2_with (go_at_call 27; refine (Div64_c14 _).mono ?_; rintro e w' ⟨⟨q, rfl⟩, rfl⟩)
  go_ret
  exact ⟨rfl, rfl⟩
set_option maxRecDepth 100000 in
theorem Len64_c15 (w : World) : Calls Tryd.prog 43 #[.int .u64 15] w fun e w' => e = .returned (.int .i64 4) ∧ w = w' := by
  go_enter Tryd.func43, Tryd.ntmps43
  go_wp2
  go_ret
  refine ⟨?_, rfl⟩
  exact congrArg (fun x => Ending.returned (.int .i64 x)) (by decide +kernel)
theorem Lead_c15 (w : World) : Calls Tryd.prog 38 #[.int .u64 15] w fun e w' => e = .returned (.int .i64 60) ∧ w = w' := by
  go_enter Tryd.func38, Tryd.ntmps38
  go_wp2_with (go_at_call 43; refine (Len64_c15 _).mono ?_; rintro e w' ⟨rfl, rfl⟩)
  go_ret
  exact ⟨rfl, rfl⟩
set_option maxRecDepth 100000 in
theorem Div64_c15 (w : World) : Calls Tryd.prog 27 #[.int .u64 1, .int .u64 0, .int .u64 15] w fun e w' => (∃ q : Int, e = .returned (.tuple #[.int .u64 q, .int .u64 1])) ∧ w = w' := by
  have hb1 : bits .or .u64 1152921504606846976 0 = 1152921504606846976 := by decide +kernel
  have hb2 : bits .and .u64 17293822569102704640 4294967295 = 0 := by decide +kernel
  have hb3 : bits .and .u64 0 4294967295 = 0 := by decide +kernel
  go_enter Tryd.func27, Tryd.ntmps27
  go_wp2_with (go_at_call 38; refine (Lead_c15 _).mono ?_; rintro e w' ⟨rfl, rfl⟩)
  go_loop [15, 16] (fun a b => a = .int .u64 286331153 ∧ b = .int .u64 268435456) (fun _ _ => 0)
  case atStart => exact ⟨congrArg (Value.int .u64) (by decide +kernel), congrArg (Value.int .u64) (by decide +kernel)⟩
  case round =>
    obtain ⟨rfl, rfl⟩ := hrel
    go_wp2
    go_loop [18, 16] (fun a b => a = .int .u64 286331153 ∧ b = .int .u64 268435456) (fun _ _ => 0)
    case atStart => exact ⟨congrArg (Value.int .u64) (by decide +kernel), congrArg (Value.int .u64) (by decide +kernel)⟩
    case round =>
      obtain ⟨rfl, rfl⟩ := hrel
      go_wp2
      go_ret2
      exact ⟨⟨1229782938247303441, ret2_u64 (by decide +kernel) (by decide +kernel)⟩, rfl⟩
theorem Rem64_c15 (w : World) : Calls Tryd.prog 23 #[.int .u64 1, .int .u64 0, .int .u64 15] w fun e w' => e = .returned (.int .u64 1) ∧ w = w' := by
  go_enter Tryd.func23, Tryd.ntmps23
  go_wp2_with (go_at_call 27; refine (Div64_c15 _).mono ?_; rintro e w' ⟨⟨q, rfl⟩, rfl⟩)
  go_ret
  exact ⟨rfl, rfl⟩
set_option maxRecDepth 100000 in
theorem Len64_c16 (w : World) : Calls Tryd.prog 43 #[.int .u64 16] w fun e w' => e = .returned (.int .i64 5) ∧ w = w' := by
  go_enter Tryd.func43, Tryd.ntmps43
  go_wp2
  go_ret
  refine ⟨?_, rfl⟩
  exact congrArg (fun x => Ending.returned (.int .i64 x)) (by decide +kernel)
theorem Lead_c16 (w : World) : Calls Tryd.prog 38 #[.int .u64 16] w fun e w' => e = .returned (.int .i64 59) ∧ w = w' := by
  go_enter Tryd.func38, Tryd.ntmps38
  go_wp2_with (go_at_call 43; refine (Len64_c16 _).mono ?_; rintro e w' ⟨rfl, rfl⟩)
  go_ret
  exact ⟨rfl, rfl⟩
set_option maxRecDepth 100000 in
theorem Div64_c16 (w : World) : Calls Tryd.prog 27 #[.int .u64 1, .int .u64 0, .int .u64 16] w fun e w' => (∃ q : Int, e = .returned (.tuple #[.int .u64 q, .int .u64 0])) ∧ w = w' := by
  have hb1 : bits .or .u64 576460752303423488 0 = 576460752303423488 := by decide +kernel
  have hb2 : bits .and .u64 9223372036854775808 4294967295 = 0 := by decide +kernel
  have hb3 : bits .and .u64 0 4294967295 = 0 := by decide +kernel
  go_enter Tryd.func27, Tryd.ntmps27
  go_wp2_with (go_at_call 38; refine (Lead_c16 _).mono ?_; rintro e w' ⟨rfl, rfl⟩)
  go_loop [15, 16] (fun a b => a = .int .u64 268435456 ∧ b = .int .u64 0) (fun _ _ => 0)
  case atStart => exact ⟨congrArg (Value.int .u64) (by decide +kernel), congrArg (Value.int .u64) (by decide +kernel)⟩
  case round =>
    obtain ⟨rfl, rfl⟩ := hrel
    go_wp2
    go_loop [18, 16] (fun a b => a = .int .u64 0 ∧ b = .int .u64 0) (fun _ _ => 0)
    case atStart => exact ⟨congrArg (Value.int .u64) (by decide +kernel), congrArg (Value.int .u64) (by decide +kernel)⟩
    case round =>
      obtain ⟨rfl, rfl⟩ := hrel
      go_wp2
      go_ret2
      exact ⟨⟨1152921504606846976, ret2_u64 (by decide +kernel) (by decide +kernel)⟩, rfl⟩
theorem Rem64_c16 (w : World) : Calls Tryd.prog 23 #[.int .u64 1, .int .u64 0, .int .u64 16] w fun e w' => e = .returned (.int .u64 0) ∧ w = w' := by
  go_enter Tryd.func23, Tryd.ntmps23
  go_wp2_with (go_at_call 27; refine (Div64_c16 _).mono ?_; rintro e w' ⟨⟨q, rfl⟩, rfl⟩)
  go_ret
  exact ⟨rfl, rfl⟩
set_option maxRecDepth 100000 in
theorem Len64_c17 (w : World) : Calls Tryd.prog 43 #[.int .u64 17] w fun e w' => e = .returned (.int .i64 5) ∧ w = w' := by
  go_enter Tryd.func43, Tryd.ntmps43
  go_wp2
  go_ret
  refine ⟨?_, rfl⟩
  exact congrArg (fun x => Ending.returned (.int .i64 x)) (by decide +kernel)
theorem Lead_c17 (w : World) : Calls Tryd.prog 38 #[.int .u64 17] w fun e w' => e = .returned (.int .i64 59) ∧ w = w' := by
  go_enter Tryd.func38, Tryd.ntmps38
  go_wp2_with (go_at_call 43; refine (Len64_c17 _).mono ?_; rintro e w' ⟨rfl, rfl⟩)
  go_ret
  exact ⟨rfl, rfl⟩
set_option maxRecDepth 100000 in
theorem Div64_c17 (w : World) : Calls Tryd.prog 27 #[.int .u64 1, .int .u64 0, .int .u64 17] w fun e w' => (∃ q : Int, e = .returned (.tuple #[.int .u64 q, .int .u64 1])) ∧ w = w' := by
  have hb1 : bits .or .u64 576460752303423488 0 = 576460752303423488 := by decide +kernel
  have hb2 : bits .and .u64 9799832789158199296 4294967295 = 0 := by decide +kernel
  have hb3 : bits .and .u64 0 4294967295 = 0 := by decide +kernel
  go_enter Tryd.func27, Tryd.ntmps27
  go_wp2_with (go_at_call 38; refine (Lead_c17 _).mono ?_; rintro e w' ⟨rfl, rfl⟩)
  go_loop [15, 16] (fun a b => a = .int .u64 252645135 ∧ b = .int .u64 134217728) (fun _ _ => 0)
  case atStart => exact ⟨congrArg (Value.int .u64) (by decide +kernel), congrArg (Value.int .u64) (by decide +kernel)⟩
  case round =>
    obtain ⟨rfl, rfl⟩ := hrel
    go_wp2
    go_loop [18, 16] (fun a b => a = .int .u64 252645135 ∧ b = .int .u64 134217728) (fun _ _ => 0)
    case atStart => exact ⟨congrArg (Value.int .u64) (by decide +kernel), congrArg (Value.int .u64) (by decide +kernel)⟩
    case round =>
      obtain ⟨rfl, rfl⟩ := hrel
      go_wp2
      go_ret2
      exact ⟨⟨1085102592571150095, ret2_u64 (by decide +kernel) (by decide +kernel)⟩, rfl⟩
theorem Rem64_c17 (w : World) : Calls Tryd.prog 23 #[.int .u64 1, .int .u64 0, .int .u64 17] w fun e w' => e = .returned (.int .u64 1) ∧ w = w' := by
  go_enter Tryd.func23, Tryd.ntmps23
  go_wp2_with (go_at_call 27; refine (Div64_c17 _).mono ?_; rintro e w' ⟨⟨q, rfl⟩, rfl⟩)
  go_ret
  exact ⟨rfl, rfl⟩
set_option maxRecDepth 100000 in
theorem Len64_c18 (w : World) : Calls Tryd.prog 43 #[.int .u64 18] w fun e w' => e = .returned (.int .i64 5) ∧ w = w' := by
  go_enter Tryd.func43, Tryd.ntmps43
  go_wp2
  go_ret
  refine ⟨?_, rfl⟩
  exact congrArg (fun x => Ending.returned (.int .i64 x)) (by decide +kernel)
theorem Lead_c18 (w : World) : Calls Tryd.prog 38 #[.int .u64 18] w fun e w' => e = .returned (.int .i64 59) ∧ w = w' := by
  go_enter Tryd.func38, Tryd.ntmps38
  go_wp2_with (go_at_call 43; refine (Len64_c18 _).mono ?_; rintro e w' ⟨rfl, rfl⟩)
  go_ret
  exact ⟨rfl, rfl⟩
set_option maxRecDepth 100000 in
theorem Div64_c18 (w : World) : Calls Tryd.prog 27 #[.int .u64 1, .int .u64 0, .int .u64 18] w fun e w' => (∃ q : Int, e = .returned (.tuple #[.int .u64 q, .int .u64 16])) ∧ w = w' := by
  have hb1 : bits .or .u64 576460752303423488 0 = 576460752303423488 := by decide +kernel
  have hb2 : bits .and .u64 10376293541461622784 4294967295 = 0 := by decide +kernel
  have hb3 : bits .and .u64 0 4294967295 = 0 := by decide +kernel
  go_enter Tryd.func27, Tryd.ntmps27
  go_wp2_with (go_at_call 38; refine (Lead_c18 _).mono ?_; rintro e w' ⟨rfl, rfl⟩)
  go_loop [15, 16] (fun a b => a = .int .u64 238609294 ∧ b = .int .u64 536870912) (fun _ _ => 0)
  case atStart => exact ⟨congrArg (Value.int .u64) (by decide +kernel), congrArg (Value.int .u64) (by decide +kernel)⟩
  case round =>
    obtain ⟨rfl, rfl⟩ := hrel
    go_wp2
    go_loop [18, 16] (fun a b => a = .int .u64 954437176 ∧ b = .int .u64 2147483648) (fun _ _ => 0)
    case atStart => exact ⟨congrArg (Value.int .u64) (by decide +kernel), congrArg (Value.int .u64) (by decide +kernel)⟩
    case round =>
      obtain ⟨rfl, rfl⟩ := hrel
      go_wp2
      go_ret2
      exact ⟨⟨1024819115206086200, ret2_u64 (by decide +kernel) (by decide +kernel)⟩, rfl⟩
theorem Rem64_c18 (w : World) : Calls Tryd.prog 23 #[.int .u64 1, .int .u64 0, .int .u64 18] w fun e w' => e = .returned (.int .u64 16) ∧ w = w' := by
  go_enter Tryd.func23, Tryd.ntmps23
  go_wp2_with (go_at_call 27; refine (Div64_c18 _).mono ?_; rintro e w' ⟨⟨q, rfl⟩, rfl⟩)
  go_ret
  exact ⟨rfl, rfl⟩
set_option maxRecDepth 100000 in
theorem Len64_c19 (w : World) : Calls Tryd.prog 43 #[.int .u64 19] w fun e w' => e = .returned (.int .i64 5) ∧ w = w' := by
  go_enter Tryd.func43, Tryd.ntmps43
  go_wp2
  go_ret
  refine ⟨?_, rfl⟩
  exact congrArg (fun x => Ending.returned (.int .i64 x)) (by decide +kernel)
theorem Lead_c19 (w : World) : Calls Tryd.prog 38 #[.int .u64 19] w fun e w' => e = .returned (.int .i64 59) ∧ w = w' := by
  go_enter Tryd.func38, Tryd.ntmps38
  go_wp2_with (go_at_call 43; refine (Len64_c19 _).mono ?_; rintro e w' ⟨rfl, rfl⟩)
  go_ret
  exact ⟨rfl, rfl⟩
set_option maxRecDepth 100000 in
theorem Div64_c19 (w : World) : Calls Tryd.prog 27 #[.int .u64 1, .int .u64 0, .int .u64 19] w fun e w' => (∃ q : Int, e = .returned (.tuple #[.int .u64 q, .int .u64 17])) ∧ w = w' := by
  have hb1 : bits .or .u64 576460752303423488 0 = 576460752303423488 := by decide +kernel
  have hb2 : bits .and .u64 10952754293765046272 4294967295 = 0 := by decide +kernel
  have hb3 : bits .and .u64 0 4294967295 = 0 := by decide +kernel
  go_enter Tryd.func27, Tryd.ntmps27
  go_wp2_with (go_at_call 38; refine (Lead_c19 _).mono ?_; rintro e w' ⟨rfl, rfl⟩)
  go_loop [15, 16] (fun a b => a = .int .u64 226050910 ∧ b = .int .u64 805306368) (fun _ _ => 0)
  case atStart => exact ⟨congrArg (Value.int .u64) (by decide +kernel), congrArg (Value.int .u64) (by decide +kernel)⟩
  case round =>
    obtain ⟨rfl, rfl⟩ := hrel
    go_wp2
    go_loop [18, 16] (fun a b => a = .int .u64 1356305461 ∧ b = .int .u64 2281701376) (fun _ _ => 0)
    case atStart => exact ⟨congrArg (Value.int .u64) (by decide +kernel), congrArg (Value.int .u64) (by decide +kernel)⟩
    case round =>
      obtain ⟨rfl, rfl⟩ := hrel
      go_wp2
      go_ret2
      exact ⟨⟨970881267037344821, ret2_u64 (by decide +kernel) (by decide +kernel)⟩, rfl⟩
theorem Rem64_c19 (w : World) : Calls Tryd.prog 23 #[.int .u64 1, .int .u64 0, .int .u64 19] w fun e w' => e = .returned (.int .u64 17) ∧ w = w' := by
  go_enter Tryd.func23, Tryd.ntmps23
  go_wp2_with (go_at_call 27; refine (Div64_c19 _).mono ?_; rintro e w' ⟨⟨q, rfl⟩, rfl⟩)
  go_ret
  exact ⟨rfl, rfl⟩
set_option maxRecDepth 100000 in
theorem Len64_c20 (w : World) : Calls Tryd.prog 43 #[.int .u64 20] w fun e w' => e = .returned (.int .i64 5) ∧ w = w' := by
  go_enter Tryd.func43, Tryd.ntmps43
  go_wp2
  go_ret
  refine ⟨?_, rfl⟩
  exact congrArg (fun x => Ending.returned (.int .i64 x)) (by decide +kernel)
theorem Lead_c20 (w : World) : Calls Tryd.prog 38 #[.int .u64 20] w fun e w' => e = .returned (.int .i64 59) ∧ w = w' := by
  go_enter Tryd.func38, Tryd.ntmps38
  go_wp2_with (go_at_call 43; refine (Len64_c20 _).mono ?_; rintro e w' ⟨rfl, rfl⟩)
  go_ret
  exact ⟨rfl, rfl⟩
set_option maxRecDepth 100000 in
theorem Div64_c20 (w : World) : Calls Tryd.prog 27 #[.int .u64 1, .int .u64 0, .int .u64 20] w fun e w' => (∃ q : Int, e = .returned (.tuple #[.int .u64 q, .int .u64 16])) ∧ w = w' := by
  have hb1 : bits .or .u64 576460752303423488 0 = 576460752303423488 := by decide +kernel
  have hb2 : bits .and .u64 11529215046068469760 4294967295 = 0 := by decide +kernel
  have hb3 : bits .and .u64 0 4294967295 = 0 := by decide +kernel
  go_enter Tryd.func27, Tryd.ntmps27
  go_wp2_with (go_at_call 38; refine (Lead_c20 _).mono ?_; rintro e w' ⟨rfl, rfl⟩)
  go_loop [15, 16] (fun a b => a = .int .u64 214748364 ∧ b = .int .u64 2147483648) (fun _ _ => 0)
  case atStart => exact ⟨congrArg (Value.int .u64) (by decide +kernel), congrArg (Value.int .u64) (by decide +kernel)⟩
  case round =>
    obtain ⟨rfl, rfl⟩ := hrel
    go_wp2
    go_loop [18, 16] (fun a b => a = .int .u64 3435973836 ∧ b = .int .u64 2147483648) (fun _ _ => 0)
    case atStart => exact ⟨congrArg (Value.int .u64) (by decide +kernel), congrArg (Value.int .u64) (by decide +kernel)⟩
    case round =>
      obtain ⟨rfl, rfl⟩ := hrel
      go_wp2
      go_ret2
      exact ⟨⟨922337203685477580, ret2_u64 (by decide +kernel) (by decide +kernel)⟩, rfl⟩
theorem Rem64_c20 (w : World) : Calls Tryd.prog 23 #[.int .u64 1, .int .u64 0, .int .u64 20] w fun e w' => e = .returned (.int .u64 16) ∧ w = w' := by
  go_enter Tryd.func23, Tryd.ntmps23
  go_wp2_with (go_at_call 27; refine (Div64_c20 _).mono ?_; rintro e w' ⟨⟨q, rfl⟩, rfl⟩)
  go_ret
  exact ⟨rfl, rfl⟩
set_option maxRecDepth 100000 in
theorem Len64_c21 (w : World) : Calls Tryd.prog 43 #[.int .u64 21] w fun e w' => e = .returned (.int .i64 5) ∧ w = w' := by
  go_enter Tryd.func43, Tryd.ntmps43
  go_wp2
  go_ret
  refine ⟨?_, rfl⟩
  exact congrArg (fun x => Ending.returned (.int .i64 x)) (by decide +kernel)
theorem Lead_c21 (w : World) : Calls Tryd.prog 38 #[.int .u64 21] w fun e w' => e = .returned (.int .i64 59) ∧ w = w' := by
  go_enter Tryd.func38, Tryd.ntmps38
  go_wp2_with (go_at_call 43; refine (Len64_c21 _).mono ?_; rintro e w' ⟨rfl, rfl⟩)
  go_ret
  exact ⟨rfl, rfl⟩
set_option maxRecDepth 100000 in
theorem Div64_c21 (w : World) : Calls Tryd.prog 27 #[.int .u64 1, .int .u64 0, .int .u64 21] w fun e w' => (∃ q : Int, e = .returned (.tuple #[.int .u64 q, .int .u64 16])) ∧ w = w' := by
  have hb1 : bits .or .u64 576460752303423488 0 = 576460752303423488 := by decide +kernel
  have hb2 : bits .and .u64 12105675798371893248 4294967295 = 0 := by decide +kernel
  have hb3 : bits .and .u64 0 4294967295 = 0 := by decide +kernel
  go_enter Tryd.func27, Tryd.ntmps27
  go_wp2_with (go_at_call 38; refine (Lead_c21 _).mono ?_; rintro e w' ⟨rfl, rfl⟩)
  go_loop [15, 16] (fun a b => a = .int .u64 204522252 ∧ b = .int .u64 536870912) (fun _ _ => 0)
  case atStart => exact ⟨congrArg (Value.int .u64) (by decide +kernel), congrArg (Value.int .u64) (by decide +kernel)⟩
  case round =>
    obtain ⟨rfl, rfl⟩ := hrel
    go_wp2
    go_loop [18, 16] (fun a b => a = .int .u64 818089008 ∧ b = .int .u64 2147483648) (fun _ _ => 0)
    case atStart => exact ⟨congrArg (Value.int .u64) (by decide +kernel), congrArg (Value.int .u64) (by decide +kernel)⟩
    case round =>
      obtain ⟨rfl, rfl⟩ := hrel
      go_wp2
      go_ret2
      exact ⟨⟨878416384462359600, ret2_u64 (by decide +kernel) (by decide +kernel)⟩, rfl⟩
theorem Rem64_c21 (w : World) : Calls Tryd.prog 23 #[.int .u64 1, .int .u64 0, .int .u64 21] w fun e w' => e = .returned (.int .u64 16) ∧ w = w' := by
  go_enter Tryd.func23, Tryd.ntmps23
  go_wp2_with (go_at_call 27; refine (Div64_c21 _).mono ?_; rintro e w' ⟨⟨q, rfl⟩, rfl⟩)
  go_ret
  exact ⟨rfl, rfl⟩
set_option maxRecDepth 100000 in
theorem Len64_c22 (w : World) : Calls Tryd.prog 43 #[.int .u64 22] w fun e w' => e = .returned (.int .i64 5) ∧ w = w' := by
  go_enter Tryd.func43, Tryd.ntmps43
  go_wp2
  go_ret
  refine ⟨?_, rfl⟩
  exact congrArg (fun x => Ending.returned (.int .i64 x)) (by decide +kernel)
theorem Lead_c22 (w : World) : Calls Tryd.prog 38 #[.int .u64 22] w fun e w' => e = .returned (.int .i64 59) ∧ w = w' := by
  go_enter Tryd.func38, Tryd.ntmps38
  go_wp2_with (go_at_call 43; refine (Len64_c22 _).mono ?_; rintro e w' ⟨rfl, rfl⟩)
  go_ret
  exact ⟨rfl, rfl⟩
set_option maxRecDepth 100000 in
theorem Div64_c22 (w : World) : Calls Tryd.prog 27 #[.int .u64 1, .int .u64 0, .int .u64 22] w fun e w' => (∃ q : Int, e = .returned (.tuple #[.int .u64 q, .int .u64 16])) ∧ w = w' := by
  have hb1 : bits .or .u64 576460752303423488 0 = 576460752303423488 := by decide +kernel
  have hb2 : bits .and .u64 12682136550675316736 4294967295 = 0 := by decide +kernel
  have hb3 : bits .and .u64 0 4294967295 = 0 := by decide +kernel
  go_enter Tryd.func27, Tryd.ntmps27
  go_wp2_with (go_at_call 38; refine (Lead_c22 _).mono ?_; rintro e w' ⟨rfl, rfl⟩)
  go_loop [15, 16] (fun a b => a = .int .u64 195225786 ∧ b = .int .u64 536870912) (fun _ _ => 0)
  case atStart => exact ⟨congrArg (Value.int .u64) (by decide +kernel), congrArg (Value.int .u64) (by decide +kernel)⟩
  case round =>
    obtain ⟨rfl, rfl⟩ := hrel
    go_wp2
    go_loop [18, 16] (fun a b => a = .int .u64 780903144 ∧ b = .int .u64 2147483648) (fun _ _ => 0)
    case atStart => exact ⟨congrArg (Value.int .u64) (by decide +kernel), congrArg (Value.int .u64) (by decide +kernel)⟩
    case round =>
      obtain ⟨rfl, rfl⟩ := hrel
      go_wp2
      go_ret2
      exact ⟨⟨838488366986797800, ret2_u64 (by decide +kernel) (by decide +kernel)⟩, rfl⟩
theorem Rem64_c22 (w : World) : Calls Tryd.prog 23 #[.int .u64 1, .int .u64 0, .int .u64 22] w fun e w' => e = .returned (.int .u64 16) ∧ w = w' := by
  go_enter Tryd.func23, Tryd.ntmps23
  go_wp2_with (go_at_call 27; refine (Div64_c22 _).mono ?_; rintro e w' ⟨⟨q, rfl⟩, rfl⟩)
  go_ret
  exact ⟨rfl, rfl⟩
set_option maxRecDepth 100000 in
theorem Len64_c23 (w : World) : Calls Tryd.prog 43 #[.int .u64 23] w fun e w' => e = .returned (.int .i64 5) ∧ w = w' := by
  go_enter Tryd.func43, Tryd.ntmps43
  go_wp2
  go_ret
  refine ⟨?_, rfl⟩
  exact congrArg (fun x => Ending.returned (.int .i64 x)) (by decide +kernel)
theorem Lead_c23 (w : World) : Calls Tryd.prog 38 #[.int .u64 23] w fun e w' => e = .returned (.int .i64 59) ∧ w = w' := by
  go_enter Tryd.func38, Tryd.ntmps38
  go_wp2_with (go_at_call 43; refine (Len64_c23 _).mono ?_; rintro e w' ⟨rfl, rfl⟩)
  go_ret
  exact ⟨rfl, rfl⟩
set_option maxRecDepth 100000 in
theorem Div64_c23 (w : World) : Calls Tryd.prog 27 #[.int .u64 1, .int .u64 0, .int .u64 23] w fun e w' => (∃ q : Int, e = .returned (.tuple #[.int .u64 q, .int .u64 6])) ∧ w = w' := by
  have hb1 : bits .or .u64 576460752303423488 0 = 576460752303423488 := by decide +kernel
  have hb2 : bits .and .u64 13258597302978740224 4294967295 = 0 := by decide +kernel
  have hb3 : bits .and .u64 0 4294967295 = 0 := by decide +kernel
  go_enter Tryd.func27, Tryd.ntmps27
  go_wp2_with (go_at_call 38; refine (Lead_c23 _).mono ?_; rintro e w' ⟨rfl, rfl⟩)
  go_loop [15, 16] (fun a b => a = .int .u64 186737708 ∧ b = .int .u64 1610612736) (fun _ _ => 0)
  case atStart => exact ⟨congrArg (Value.int .u64) (by decide +kernel), congrArg (Value.int .u64) (by decide +kernel)⟩
  case round =>
    obtain ⟨rfl, rfl⟩ := hrel
    go_wp2
    go_loop [18, 16] (fun a b => a = .int .u64 2240852502 ∧ b = .int .u64 805306368) (fun _ _ => 0)
    case atStart => exact ⟨congrArg (Value.int .u64) (by decide +kernel), congrArg (Value.int .u64) (by decide +kernel)⟩
    case round =>
      obtain ⟨rfl, rfl⟩ := hrel
      go_wp2
      go_ret2
      exact ⟨⟨802032351030850070, ret2_u64 (by decide +kernel) (by decide +kernel)⟩, rfl⟩
theorem Rem64_c23 (w : World) : Calls Tryd.prog 23 #[.int .u64 1, .int .u64 0, .int .u64 23] w fun e w' => e = .returned (.int .u64 6) ∧ w = w' := by
  go_enter Tryd.func23, Tryd.ntmps23
  go_wp2_with (go_at_call 27; refine (Div64_c23 _).mono ?_; rintro e w' ⟨⟨q, rfl⟩, rfl⟩)
  go_ret
  exact ⟨rfl, rfl⟩
set_option maxRecDepth 100000 in
theorem Len64_c24 (w : World) : Calls Tryd.prog 43 #[.int .u64 24] w fun e w' => e = .returned (.int .i64 5) ∧ w = w' := by
  go_enter Tryd.func43, Tryd.ntmps43
  go_wp2
  go_ret
  refine ⟨?_, rfl⟩
  exact congrArg (fun x => Ending.returned (.int .i64 x)) (by decide +kernel)
theorem Lead_c24 (w : World) : Calls Tryd.prog 38 #[.int .u64 24] w fun e w' => e = .returned (.int .i64 59) ∧ w = w' := by
  go_enter Tryd.func38, Tryd.ntmps38
  go_wp2_with (go_at_call 43; refine (Len64_c24 _).mono ?_; rintro e w' ⟨rfl, rfl⟩)
  go_ret
  exact ⟨rfl, rfl⟩
set_option maxRecDepth 100000 in
theorem Div64_c24 (w : World) : Calls Tryd.prog 27 #[.int .u64 1, .int .u64 0, .int .u64 24] w fun e w' => (∃ q : Int, e = .returned (.tuple #[.int .u64 q, .int .u64 16])) ∧ w = w' := by
  have hb1 : bits .or .u64 576460752303423488 0 = 576460752303423488 := by decide +kernel
  have hb2 : bits .and .u64 13835058055282163712 4294967295 = 0 := by decide +kernel
  have hb3 : bits .and .u64 0 4294967295 = 0 := by decide +kernel
  go_enter Tryd.func27, Tryd.ntmps27
  go_wp2_with (go_at_call 38; refine (Lead_c24 _).mono ?_; rintro e w' ⟨rfl, rfl⟩)
  go_loop [15, 16] (fun a b => a = .int .u64 178956970 ∧ b = .int .u64 2147483648) (fun _ _ => 0)
  case atStart => exact ⟨congrArg (Value.int .u64) (by decide +kernel), congrArg (Value.int .u64) (by decide +kernel)⟩
  case round =>
    obtain ⟨rfl, rfl⟩ := hrel
    go_wp2
    go_loop [18, 16] (fun a b => a = .int .u64 2863311530 ∧ b = .int .u64 2147483648) (fun _ _ => 0)
    case atStart => exact ⟨congrArg (Value.int .u64) (by decide +kernel), congrArg (Value.int .u64) (by decide +kernel)⟩
    case round =>
      obtain ⟨rfl, rfl⟩ := hrel
      go_wp2
      go_ret2
      exact ⟨⟨768614336404564650, ret2_u64 (by decide +kernel) (by decide +kernel)⟩, rfl⟩
theorem Rem64_c24 (w : World) : Calls Tryd.prog 23 #[.int .u64 1, .int .u64 0, .int .u64 24] w fun e w' => e = .returned (.int .u64 16) ∧ w = w' := by
  go_enter Tryd.func23, Tryd.ntmps23
  go_wp2_with (go_at_call 27; refine (Div64_c24 _).mono ?_; rintro e w' ⟨⟨q, rfl⟩, rfl⟩)
  go_ret
  exact ⟨rfl, rfl⟩
set_option maxRecDepth 100000 in
theorem Len64_c25 (w : World) : Calls Tryd.prog 43 #[.int .u64 25] w fun e w' => e = .returned (.int .i64 5) ∧ w = w' := by
  go_enter Tryd.func43, Tryd.ntmps43
  go_wp2
  go_ret
  refine ⟨?_, rfl⟩
  exact congrArg (fun x => Ending.returned (.int .i64 x)) (by decide +kernel)
theorem Lead_c25 (w : World) : Calls Tryd.prog 38 #[.int .u64 25] w fun e w' => e = .returned (.int .i64 59) ∧ w = w' := by
  go_enter Tryd.func38, Tryd.ntmps38
  go_wp2_with (go_at_call 43; refine (Len64_c25 _).mono ?_; rintro e w' ⟨rfl, rfl⟩)
  go_ret
  exact ⟨rfl, rfl⟩
set_option maxRecDepth 100000 in
theorem Div64_c25 (w : World) : Calls Tryd.prog 27 #[.int .u64 1, .int .u64 0, .int .u64 25] w fun e w' => (∃ q : Int, e = .returned (.tuple #[.int .u64 q, .int .u64 16])) ∧ w = w' := by
  have hb1 : bits .or .u64 576460752303423488 0 = 576460752303423488 := by decide +kernel
  have hb2 : bits .and .u64 14411518807585587200 4294967295 = 0 := by decide +kernel
  have hb3 : bits .and .u64 0 4294967295 = 0 := by decide +kernel
  go_enter Tryd.func27, Tryd.ntmps27
  go_wp2_with (go_at_call 38; refine (Lead_c25 _).mono ?_; rintro e w' ⟨rfl, rfl⟩)
  go_loop [15, 16] (fun a b => a = .int .u64 171798691 ∧ b = .int .u64 2818572288) (fun _ _ => 0)
  case atStart => exact ⟨congrArg (Value.int .u64) (by decide +kernel), congrArg (Value.int .u64) (by decide +kernel)⟩
  case round =>
    obtain ⟨rfl, rfl⟩ := hrel
    go_wp2
    go_loop [18, 16] (fun a b => a = .int .u64 3607772528 ∧ b = .int .u64 2147483648) (fun _ _ => 0)
    case atStart => exact ⟨congrArg (Value.int .u64) (by decide +kernel), congrArg (Value.int .u64) (by decide +kernel)⟩
    case round =>
      obtain ⟨rfl, rfl⟩ := hrel
      go_wp2
      go_ret2
      exact ⟨⟨737869762948382064, ret2_u64 (by decide +kernel) (by decide +kernel)⟩, rfl⟩
theorem Rem64_c25 (w : World) : Calls Tryd.prog 23 #[.int .u64 1, .int .u64 0, .int .u64 25] w fun e w' => e = .returned (.int .u64 16) ∧ w = w' := by
  go_enter Tryd.func23, Tryd.ntmps23
  go_wp2_with (go_at_call 27; refine (Div64_c25 _).mono ?_; rintro e w' ⟨⟨q, rfl⟩, rfl⟩)
  go_ret
  exact ⟨rfl, rfl⟩
set_option maxRecDepth 100000 in
theorem Len64_c26 (w : World) : Calls Tryd.prog 43 #[.int .u64 26] w fun e w' => e = .returned (.int .i64 5) ∧ w = w' := by
  go_enter Tryd.func43, Tryd.ntmps43
  go_wp2
  go_ret
  refine ⟨?_, rfl⟩
  exact congrArg (fun x => Ending.returned (.int .i64 x)) (by decide +kernel)
theorem Lead_c26 (w : World) : Calls Tryd.prog 38 #[.int .u64 26] w fun e w' => e = .returned (.int .i64 59) ∧ w = w' := by
  go_enter Tryd.func38, Tryd.ntmps38
  go_wp2_with (go_at_call 43; refine (Len64_c26 _).mono ?_; rintro e w' ⟨rfl, rfl⟩)
  go_ret
  exact ⟨rfl, rfl⟩
set_option maxRecDepth 100000 in
theorem Div64_c26 (w : World) : Calls Tryd.prog 27 #[.int .u64 1, .int .u64 0, .int .u64 26] w fun e w' => (∃ q : Int, e = .returned (.tuple #[.int .u64 q, .int .u64 16])) ∧ w = w' := by
  have hb1 : bits .or .u64 576460752303423488 0 = 576460752303423488 := by decide +kernel
  have hb2 : bits .and .u64 14987979559889010688 4294967295 = 0 := by decide +kernel
  have hb3 : bits .and .u64 0 4294967295 = 0 := by decide +kernel
  go_enter Tryd.func27, Tryd.ntmps27
  go_wp2_with (go_at_call 38; refine (Lead_c26 _).mono ?_; rintro e w' ⟨rfl, rfl⟩)
  go_loop [15, 16] (fun a b => a = .int .u64 165191049 ∧ b = .int .u64 2952790016) (fun _ _ => 0)
  case atStart => exact ⟨congrArg (Value.int .u64) (by decide +kernel), congrArg (Value.int .u64) (by decide +kernel)⟩
  case round =>
    obtain ⟨rfl, rfl⟩ := hrel
    go_wp2
    go_loop [18, 16] (fun a b => a = .int .u64 3634203096 ∧ b = .int .u64 2147483648) (fun _ _ => 0)
    case atStart => exact ⟨congrArg (Value.int .u64) (by decide +kernel), congrArg (Value.int .u64) (by decide +kernel)⟩
    case round =>
      obtain ⟨rfl, rfl⟩ := hrel
      go_wp2
      go_ret2
      exact ⟨⟨709490156681136600, ret2_u64 (by decide +kernel) (by decide +kernel)⟩, rfl⟩
theorem Rem64_c26 (w : World) : Calls Tryd.prog 23 #[.int .u64 1, .int .u64 0, .int .u64 26] w fun e w' => e = .returned (.int .u64 16) ∧ w = w' := by
  go_enter Tryd.func23, Tryd.ntmps23
  go_wp2_with (go_at_call 27; refine (Div64_c26 _).mono ?_; rintro e w' ⟨⟨q, rfl⟩, rfl⟩)
  go_ret
  exact ⟨rfl, rfl⟩
set_option maxRecDepth 100000 in
theorem Len64_c27 (w : World) : Calls Tryd.prog 43 #[.int .u64 27] w fun e w' => e = .returned (.int .i64 5) ∧ w = w' := by
  go_enter Tryd.func43, Tryd.ntmps43
  go_wp2
  go_ret
  refine ⟨?_, rfl⟩
  exact congrArg (fun x => Ending.returned (.int .i64 x)) (by decide +kernel)
theorem Lead_c27 (w : World) : Calls Tryd.prog 38 #[.int .u64 27] w fun e w' => e = .returned (.int .i64 59) ∧ w = w' := by
  go_enter Tryd.func38, Tryd.ntmps38
  go_wp2_with (go_at_call 43; refine (Len64_c27 _).mono ?_; rintro e w' ⟨rfl, rfl⟩)
  go_ret
  exact ⟨rfl, rfl⟩
set_option maxRecDepth 100000 in
theorem Div64_c27 (w : World) : Calls Tryd.prog 27 #[.int .u64 1, .int .u64 0, .int .u64 27] w fun e w' => (∃ q : Int, e = .returned (.tuple #[.int .u64 q, .int .u64 25])) ∧ w = w' := by
  have hb1 : bits .or .u64 576460752303423488 0 = 576460752303423488 := by decide +kernel
  have hb2 : bits .and .u64 15564440312192434176 4294967295 = 0 := by decide +kernel
  have hb3 : bits .and .u64 0 4294967295 = 0 := by decide +kernel
  go_enter Tryd.func27, Tryd.ntmps27
  go_wp2_with (go_at_call 38; refine (Lead_c27 _).mono ?_; rintro e w' ⟨rfl, rfl⟩)
  go_loop [15, 16] (fun a b => a = .int .u64 159072862 ∧ b = .int .u64 2952790016) (fun _ _ => 0)
  case atStart => exact ⟨congrArg (Value.int .u64) (by decide +kernel), congrArg (Value.int .u64) (by decide +kernel)⟩
  case round =>
    obtain ⟨rfl, rfl⟩ := hrel
    go_wp2
    go_loop [18, 16] (fun a b => a = .int .u64 3499602981 ∧ b = .int .u64 3355443200) (fun _ _ => 0)
    case atStart => exact ⟨congrArg (Value.int .u64) (by decide +kernel), congrArg (Value.int .u64) (by decide +kernel)⟩
    case round =>
      obtain ⟨rfl, rfl⟩ := hrel
      go_wp2
      go_ret2
      exact ⟨⟨683212743470724133, ret2_u64 (by decide +kernel) (by decide +kernel)⟩, rfl⟩
theorem Rem64_c27 (w : World) : Calls Tryd.prog 23 #[.int .u64 1, .int .u64 0, .int .u64 27] w fun e w' => e = .returned (.int .u64 25) ∧ w = w' := by
  go_enter Tryd.func23, Tryd.ntmps23
  go_wp2_with (go_at_call 27; refine (Div64_c27 _).mono ?_; rintro e w' ⟨⟨q, rfl⟩, rfl⟩)
  go_ret
  exact ⟨rfl, rfl⟩
set_option maxRecDepth 100000 in
theorem Len64_c28 (w : World) : Calls Tryd.prog 43 #[.int .u64 28] w fun e w' => e = .returned (.int .i64 5) ∧ w = w' := by
  go_enter Tryd.func43, Tryd.ntmps43
  go_wp2
  go_ret
  refine ⟨?_, rfl⟩
  exact congrArg (fun x => Ending.returned (.int .i64 x)) (by decide +kernel)
theorem Lead_c28 (w : World) : Calls Tryd.prog 38 #[.int .u64 28] w fun e w' => e = .returned (.int .i64 59) ∧ w = w' := by
  go_enter Tryd.func38, Tryd.ntmps38
  go_wp2_with (go_at_call 43; refine (Len64_c28 _).mono ?_; rintro e w' ⟨rfl, rfl⟩)
  go_ret
  exact ⟨rfl, rfl⟩
set_option maxRecDepth 100000 in
theorem Div64_c28 (w : World) : Calls Tryd.prog 27 #[.int .u64 1, .int .u64 0, .int .u64 28] w fun e w' => (∃ q : Int, e = .returned (.tuple #[.int .u64 q, .int .u64 16])) ∧ w = w' := by
  have hb1 : bits .or .u64 576460752303423488 0 = 576460752303423488 := by decide +kernel
  have hb2 : bits .and .u64 16140901064495857664 4294967295 = 0 := by decide +kernel
  have hb3 : bits .and .u64 0 4294967295 = 0 := by decide +kernel
  go_enter Tryd.func27, Tryd.ntmps27
  go_wp2_with (go_at_call 38; refine (Lead_c28 _).mono ?_; rintro e w' ⟨rfl, rfl⟩)
  go_loop [15, 16] (fun a b => a = .int .u64 153391689 ∧ b = .int .u64 536870912) (fun _ _ => 0)
  case atStart => exact ⟨congrArg (Value.int .u64) (by decide +kernel), congrArg (Value.int .u64) (by decide +kernel)⟩
  case round =>
    obtain ⟨rfl, rfl⟩ := hrel
    go_wp2
    go_loop [18, 16] (fun a b => a = .int .u64 613566756 ∧ b = .int .u64 2147483648) (fun _ _ => 0)
    case atStart => exact ⟨congrArg (Value.int .u64) (by decide +kernel), congrArg (Value.int .u64) (by decide +kernel)⟩
    case round =>
      obtain ⟨rfl, rfl⟩ := hrel
      go_wp2
      go_ret2
      exact ⟨⟨658812288346769700, ret2_u64 (by decide +kernel) (by decide +kernel)⟩, rfl⟩
theorem Rem64_c28 (w : World) : Calls Tryd.prog 23 #[.int .u64 1, .int .u64 0, .int .u64 28] w fun e w' => e = .returned (.int .u64 16) ∧ w = w' := by
  go_enter Tryd.func23, Tryd.ntmps23
  go_wp2_with (go_at_call 27; refine (Div64_c28 _).mono ?_; rintro e w' ⟨⟨q, rfl⟩, rfl⟩)
  go_ret
  exact ⟨rfl, rfl⟩
set_option maxRecDepth 100000 in
theorem Len64_c29 (w : World) : Calls Tryd.prog 43 #[.int .u64 29] w fun e w' => e = .returned (.int .i64 5) ∧ w = w' := by
  go_enter Tryd.func43, Tryd.ntmps43
  go_wp2
  go_ret
  refine ⟨?_, rfl⟩
  exact congrArg (fun x => Ending.returned (.int .i64 x)) (by decide +kernel)
theorem Lead_c29 (w : World) : Calls Tryd.prog 38 #[.int .u64 29] w fun e w' => e = .returned (.int .i64 59) ∧ w = w' := by
  go_enter Tryd.func38, Tryd.ntmps38
  go_wp2_with (go_at_call 43; refine (Len64_c29 _).mono ?_; rintro e w' ⟨rfl, rfl⟩)
  go_ret
  exact ⟨rfl, rfl⟩
set_option maxRecDepth 100000 in
theorem Div64_c29 (w : World) : Calls Tryd.prog 27 #[.int .u64 1, .int .u64 0, .int .u64 29] w fun e w' => (∃ q : Int, e = .returned (.tuple #[.int .u64 q, .int .u64 24])) ∧ w = w' := by
  have hb1 : bits .or .u64 576460752303423488 0 = 576460752303423488 := by decide +kernel
  have hb2 : bits .and .u64 16717361816799281152 4294967295 = 0 := by decide +kernel
  have hb3 : bits .and .u64 0 4294967295 = 0 := by decide +kernel
  go_enter Tryd.func27, Tryd.ntmps27
  go_wp2_with (go_at_call 38; refine (Lead_c29 _).mono ?_; rintro e w' ⟨rfl, rfl⟩)
  go_loop [15, 16] (fun a b => a = .int .u64 148102320 ∧ b = .int .u64 2147483648) (fun _ _ => 0)
  case atStart => exact ⟨congrArg (Value.int .u64) (by decide +kernel), congrArg (Value.int .u64) (by decide +kernel)⟩
  case round =>
    obtain ⟨rfl, rfl⟩ := hrel
    go_wp2
    go_loop [18, 16] (fun a b => a = .int .u64 2369637128 ∧ b = .int .u64 3221225472) (fun _ _ => 0)
    case atStart => exact ⟨congrArg (Value.int .u64) (by decide +kernel), congrArg (Value.int .u64) (by decide +kernel)⟩
    case round =>
      obtain ⟨rfl, rfl⟩ := hrel
      go_wp2
      go_ret2
      exact ⟨⟨636094623231363848, ret2_u64 (by decide +kernel) (by decide +kernel)⟩, rfl⟩
theorem Rem64_c29 (w : World) : Calls Tryd.prog 23 #[.int .u64 1, .int .u64 0, .int .u64 29] w fun e w' => e = .returned (.int .u64 24) ∧ w = w' := by
  go_enter Tryd.func23, Tryd.ntmps23
  go_wp2_with (go_at_call 27; refine (Div64_c29 _).mono ?_; rintro e w' ⟨⟨q, rfl⟩, rfl⟩)
  go_ret
  exact ⟨rfl, rfl⟩
set_option maxRecDepth 100000 in
theorem Len64_c30 (w : World) : Calls Tryd.prog 43 #[.int .u64 30] w fun e w' => e = .returned (.int .i64 5) ∧ w = w' := by
  go_enter Tryd.func43, Tryd.ntmps43
  go_wp2
  go_ret
  refine ⟨?_, rfl⟩
  exact congrArg (fun x => Ending.returned (.int .i64 x)) (by decide +kernel)
theorem Lead_c30 (w : World) : Calls Tryd.prog 38 #[.int .u64 30] w fun e w' => e = .returned (.int .i64 59) ∧ w = w' := by
  go_enter Tryd.func38, Tryd.ntmps38
  go_wp2_with (go_at_call 43; refine (Len64_c30 _).mono ?_; rintro e w' ⟨rfl, rfl⟩)
  go_ret
  exact ⟨rfl, rfl⟩
set_option maxRecDepth 100000 in
theorem Div64_c30 (w : World) : Calls Tryd.prog 27 #[.int .u64 1, .int .u64 0, .int .u64 30] w fun e w' => (∃ q : Int, e = .returned (.tuple #[.int .u64 q, .int .u64 16])) ∧ w = w' := by
  have hb1 : bits .or .u64 576460752303423488 0 = 576460752303423488 := by decide +kernel
  have hb2 : bits .and .u64 17293822569102704640 4294967295 = 0 := by decide +kernel
  have hb3 : bits .and .u64 0 4294967295 = 0 := by decide +kernel
  go_enter Tryd.func27, Tryd.ntmps27
  go_wp2_with (go_at_call 38; refine (Lead_c30 _).mono ?_; rintro e w' ⟨rfl, rfl⟩)
  go_loop [15, 16] (fun a b => a = .int .u64 143165576 ∧ b = .int .u64 2147483648) (fun _ _ => 0)
  case atStart => exact ⟨congrArg (Value.int .u64) (by decide +kernel), congrArg (Value.int .u64) (by decide +kernel)⟩
  case round =>
    obtain ⟨rfl, rfl⟩ := hrel
    go_wp2
    go_loop [18, 16] (fun a b => a = .int .u64 2290649224 ∧ b = .int .u64 2147483648) (fun _ _ => 0)
    case atStart => exact ⟨congrArg (Value.int .u64) (by decide +kernel), congrArg (Value.int .u64) (by decide +kernel)⟩
    case round =>
      obtain ⟨rfl, rfl⟩ := hrel
      go_wp2
      go_ret2
      exact ⟨⟨614891469123651720, ret2_u64 (by decide +kernel) (by decide +kernel)⟩, rfl⟩
theorem Rem64_c30 (w : World) : Calls Tryd.prog 23 #[.int .u64 1, .int .u64 0, .int .u64 30] w fun e w' => e = .returned (.int .u64 16) ∧ w = w' := by
  go_enter Tryd.func23, Tryd.ntmps23
  go_wp2_with (go_at_call 27; refine (Div64_c30 _).mono ?_; rintro e w' ⟨⟨q, rfl⟩, rfl⟩)
  go_ret
  exact ⟨rfl, rfl⟩
set_option maxRecDepth 100000 in
theorem Len64_c31 (w : World) : Calls Tryd.prog 43 #[.int .u64 31] w fun e w' => e = .returned (.int .i64 5) ∧ w = w' := by
  go_enter Tryd.func43, Tryd.ntmps43
  go_wp2
  go_ret
  refine ⟨?_, rfl⟩
  exact congrArg (fun x => Ending.returned (.int .i64 x)) (by decide +kernel)
theorem Lead_c31 (w : World) : Calls Tryd.prog 38 #[.int .u64 31] w fun e w' => e = .returned (.int .i64 59) ∧ w = w' := by
  go_enter Tryd.func38, Tryd.ntmps38
  go_wp2_with (go_at_call 43; refine (Len64_c31 _).mono ?_; rintro e w' ⟨rfl, rfl⟩)
  go_ret
  exact ⟨rfl, rfl⟩
set_option maxRecDepth 100000 in
theorem Div64_c31 (w : World) : Calls Tryd.prog 27 #[.int .u64 1, .int .u64 0, .int .u64 31] w fun e w' => (∃ q : Int, e = .returned (.tuple #[.int .u64 q, .int .u64 16])) ∧ w = w' := by
  have hb1 : bits .or .u64 576460752303423488 0 = 576460752303423488 := by decide +kernel
  have hb2 : bits .and .u64 17870283321406128128 4294967295 = 0 := by decide +kernel
  have hb3 : bits .and .u64 0 4294967295 = 0 := by decide +kernel
  go_enter Tryd.func27, Tryd.ntmps27
  go_wp2_with (go_at_call 38; refine (Lead_c31 _).mono ?_; rintro e w' ⟨rfl, rfl⟩)
  go_loop [15, 16] (fun a b => a = .int .u64 138547332 ∧ b = .int .u64 536870912) (fun _ _ => 0)
  case atStart => exact ⟨congrArg (Value.int .u64) (by decide +kernel), congrArg (Value.int .u64) (by decide +kernel)⟩
  case round =>
    obtain ⟨rfl, rfl⟩ := hrel
    go_wp2
    go_loop [18, 16] (fun a b => a = .int .u64 554189328 ∧ b = .int .u64 2147483648) (fun _ _ => 0)
    case atStart => exact ⟨congrArg (Value.int .u64) (by decide +kernel), congrArg (Value.int .u64) (by decide +kernel)⟩
    case round =>
      obtain ⟨rfl, rfl⟩ := hrel
      go_wp2
      go_ret2
      exact ⟨⟨595056260442243600, ret2_u64 (by decide +kernel) (by decide +kernel)⟩, rfl⟩
theorem Rem64_c31 (w : World) : Calls Tryd.prog 23 #[.int .u64 1, .int .u64 0, .int .u64 31] w fun e w' => e = .returned (.int .u64 16) ∧ w = w' := by
  go_enter Tryd.func23, Tryd.ntmps23
  go_wp2_with (go_at_call 27; refine (Div64_c31 _).mono ?_; rintro e w' ⟨⟨q, rfl⟩, rfl⟩)
  go_ret
  exact ⟨rfl, rfl⟩
set_option maxRecDepth 100000 in
theorem Len64_c32 (w : World) : Calls Tryd.prog 43 #[.int .u64 32] w fun e w' => e = .returned (.int .i64 6) ∧ w = w' := by
  go_enter Tryd.func43, Tryd.ntmps43
  go_wp2
  go_ret
  refine ⟨?_, rfl⟩
  exact congrArg (fun x => Ending.returned (.int .i64 x)) (by decide +kernel)
theorem Lead_c32 (w : World) : Calls Tryd.prog 38 #[.int .u64 32] w fun e w' => e = .returned (.int .i64 58) ∧ w = w' := by
  go_enter Tryd.func38, Tryd.ntmps38
  go_wp2_with (go_at_call 43; refine (Len64_c32 _).mono ?_; rintro e w' ⟨rfl, rfl⟩)
  go_ret
  exact ⟨rfl, rfl⟩
set_option maxRecDepth 100000 in
theorem Div64_c32 (w : World) : Calls Tryd.prog 27 #[.int .u64 1, .int .u64 0, .int .u64 32] w fun e w' => (∃ q : Int, e = .returned (.tuple #[.int .u64 q, .int .u64 0])) ∧ w = w' := by
  have hb1 : bits .or .u64 288230376151711744 0 = 288230376151711744 := by decide +kernel
  have hb2 : bits .and .u64 9223372036854775808 4294967295 = 0 := by decide +kernel
  have hb3 : bits .and .u64 0 4294967295 = 0 := by decide +kernel
  go_enter Tryd.func27, Tryd.ntmps27
  go_wp2_with (go_at_call 38; refine (Lead_c32 _).mono ?_; rintro e w' ⟨rfl, rfl⟩)
  go_loop [15, 16] (fun a b => a = .int .u64 134217728 ∧ b = .int .u64 0) (fun _ _ => 0)
  case atStart => exact ⟨congrArg (Value.int .u64) (by decide +kernel), congrArg (Value.int .u64) (by decide +kernel)⟩
  case round =>
    obtain ⟨rfl, rfl⟩ := hrel
    go_wp2
    go_loop [18, 16] (fun a b => a = .int .u64 0 ∧ b = .int .u64 0) (fun _ _ => 0)
    case atStart => exact ⟨congrArg (Value.int .u64) (by decide +kernel), congrArg (Value.int .u64) (by decide +kernel)⟩
    case round =>
      obtain ⟨rfl, rfl⟩ := hrel
      go_wp2
      go_ret2
      exact ⟨⟨576460752303423488, ret2_u64 (by decide +kernel) (by decide +kernel)⟩, rfl⟩
theorem Rem64_c32 (w : World) : Calls Tryd.prog 23 #[.int .u64 1, .int .u64 0, .int .u64 32] w fun e w' => e = .returned (.int .u64 0) ∧ w = w' := by
  go_enter Tryd.func23, Tryd.ntmps23
  go_wp2_with (go_at_call 27; refine (Div64_c32 _).mono ?_; rintro e w' ⟨⟨q, rfl⟩, rfl⟩)
  go_ret
  exact ⟨rfl, rfl⟩
set_option maxRecDepth 100000 in
theorem Len64_c33 (w : World) : Calls Tryd.prog 43 #[.int .u64 33] w fun e w' => e = .returned (.int .i64 6) ∧ w = w' := by
  go_enter Tryd.func43, Tryd.ntmps43
  go_wp2
  go_ret
  refine ⟨?_, rfl⟩
  exact congrArg (fun x => Ending.returned (.int .i64 x)) (by decide +kernel)
theorem Lead_c33 (w : World) : Calls Tryd.prog 38 #[.int .u64 33] w fun e w' => e = .returned (.int .i64 58) ∧ w = w' := by
  go_enter Tryd.func38, Tryd.ntmps38
  go_wp2_with (go_at_call 43; refine (Len64_c33 _).mono ?_; rintro e w' ⟨rfl, rfl⟩)
  go_ret
  exact ⟨rfl, rfl⟩
set_option maxRecDepth 100000 in
theorem Div64_c33 (w : World) : Calls Tryd.prog 27 #[.int .u64 1, .int .u64 0, .int .u64 33] w fun e w' => (∃ q : Int, e = .returned (.tuple #[.int .u64 q, .int .u64 16])) ∧ w = w' := by
  have hb1 : bits .or .u64 288230376151711744 0 = 288230376151711744 := by decide +kernel
  have hb2 : bits .and .u64 9511602413006487552 4294967295 = 0 := by decide +kernel
  have hb3 : bits .and .u64 0 4294967295 = 0 := by decide +kernel
  go_enter Tryd.func27, Tryd.ntmps27
  go_wp2_with (go_at_call 38; refine (Lead_c33 _).mono ?_; rintro e w' ⟨rfl, rfl⟩)
  go_loop [15, 16] (fun a b => a = .int .u64 130150524 ∧ b = .int .u64 268435456) (fun _ _ => 0)
  case atStart => exact ⟨congrArg (Value.int .u64) (by decide +kernel), congrArg (Value.int .u64) (by decide +kernel)⟩
  case round =>
    obtain ⟨rfl, rfl⟩ := hrel
    go_wp2
    go_loop [18, 16] (fun a b => a = .int .u64 520602096 ∧ b = .int .u64 1073741824) (fun _ _ => 0)
    case atStart => exact ⟨congrArg (Value.int .u64) (by decide +kernel), congrArg (Value.int .u64) (by decide +kernel)⟩
    case round =>
      obtain ⟨rfl, rfl⟩ := hrel
      go_wp2
      go_ret2
      exact ⟨⟨558992244657865200, ret2_u64 (by decide +kernel) (by decide +kernel)⟩, rfl⟩
theorem Rem64_c33 (w : World) : Calls Tryd.prog 23 #[.int .u64 1, .int .u64 0, .int .u64 33] w fun e w' => e = .returned (.int .u64 16) ∧ w = w' := by
  go_enter Tryd.func23, Tryd.ntmps23
  go_wp2_with (go_at_call 27; refine (Div64_c33 _).mono ?_; rintro e w' ⟨⟨q, rfl⟩, rfl⟩)
  go_ret
  exact ⟨rfl, rfl⟩
set_option maxRecDepth 100000 in
theorem Len64_c34 (w : World) : Calls Tryd.prog 43 #[.int .u64 34] w fun e w' => e = .returned (.int .i64 6) ∧ w = w' := by
  go_enter Tryd.func43, Tryd.ntmps43
  go_wp2
  go_ret
  refine ⟨?_, rfl⟩
  exact congrArg (fun x => Ending.returned (.int .i64 x)) (by decide +kernel)
theorem Lead_c34 (w : World) : Calls Tryd.prog 38 #[.int .u64 34] w fun e w' => e = .returned (.int .i64 58) ∧ w = w' := by
  go_enter Tryd.func38, Tryd.ntmps38
  go_wp2_with (go_at_call 43; refine (Len64_c34 _).mono ?_; rintro e w' ⟨rfl, rfl⟩)
  go_ret
  exact ⟨rfl, rfl⟩
set_option maxRecDepth 100000 in
theorem Div64_c34 (w : World) : Calls Tryd.prog 27 #[.int .u64 1, .int .u64 0, .int .u64 34] w fun e w' => (∃ q : Int, e = .returned (.tuple #[.int .u64 q, .int .u64 18])) ∧ w = w' := by
  have hb1 : bits .or .u64 288230376151711744 0 = 288230376151711744 := by decide +kernel
  have hb2 : bits .and .u64 9799832789158199296 4294967295 = 0 := by decide +kernel
  have hb3 : bits .and .u64 0 4294967295 = 0 := by decide +kernel
  go_enter Tryd.func27, Tryd.ntmps27
  go_wp2_with (go_at_call 38; refine (Lead_c34 _).mono ?_; rintro e w' ⟨rfl, rfl⟩)
  go_loop [15, 16] (fun a b => a = .int .u64 126322567 ∧ b = .int .u64 1207959552) (fun _ _ => 0)
  case atStart => exact ⟨congrArg (Value.int .u64) (by decide +kernel), congrArg (Value.int .u64) (by decide +kernel)⟩
  case round =>
    obtain ⟨rfl, rfl⟩ := hrel
    go_wp2
    go_loop [18, 16] (fun a b => a = .int .u64 2273806215 ∧ b = .int .u64 1207959552) (fun _ _ => 0)
    case atStart => exact ⟨congrArg (Value.int .u64) (by decide +kernel), congrArg (Value.int .u64) (by decide +kernel)⟩
    case round =>
      obtain ⟨rfl, rfl⟩ := hrel
      go_wp2
      go_ret2
      exact ⟨⟨542551296285575047, ret2_u64 (by decide +kernel) (by decide +kernel)⟩, rfl⟩
theorem Rem64_c34 (w : World) : Calls Tryd.prog 23 #[.int .u64 1, .int .u64 0, .int .u64 34] w fun e w' => e = .returned (.int .u64 18) ∧ w = w' := by
  go_enter Tryd.func23, Tryd.ntmps23
  go_wp2_with (go_at_call 27; refine (Div64_c34 _).mono ?_; rintro e w' ⟨⟨q, rfl⟩, rfl⟩)
  go_ret
  exact ⟨rfl, rfl⟩
set_option maxRecDepth 100000 in
theorem Len64_c35 (w : World) : Calls Tryd.prog 43 #[.int .u64 35] w fun e w' => e = .returned (.int .i64 6) ∧ w = w' := by
  go_enter Tryd.func43, Tryd.ntmps43
  go_wp2
  go_ret
  refine ⟨?_, rfl⟩
  exact congrArg (fun x => Ending.returned (.int .i64 x)) (by decide +kernel)
theorem Lead_c35 (w : World) : Calls Tryd.prog 38 #[.int .u64 35] w fun e w' => e = .returned (.int .i64 58) ∧ w = w' := by
  go_enter Tryd.func38, Tryd.ntmps38
  go_wp2_with (go_at_call 43; refine (Len64_c35 _).mono ?_; rintro e w' ⟨rfl, rfl⟩)
  go_ret
  exact ⟨rfl, rfl⟩
set_option maxRecDepth 100000 in
theorem Div64_c35 (w : World) : Calls Tryd.prog 27 #[.int .u64 1, .int .u64 0, .int .u64 35] w fun e w' => (∃ q : Int, e = .returned (.tuple #[.int .u64 q, .int .u64 16])) ∧ w = w' := by
  have hb1 : bits .or .u64 288230376151711744 0 = 288230376151711744 := by decide +kernel
  have hb2 : bits .and .u64 10088063165309911040 4294967295 = 0 := by decide +kernel
  have hb3 : bits .and .u64 0 4294967295 = 0 := by decide +kernel
  go_enter Tryd.func27, Tryd.ntmps27
  go_wp2_with (go_at_call 38; refine (Lead_c35 _).mono ?_; rintro e w' ⟨rfl, rfl⟩)
  go_loop [15, 16] (fun a b => a = .int .u64 122713351 ∧ b = .int .u64 738197504) (fun _ _ => 0)
  case atStart => exact ⟨congrArg (Value.int .u64) (by decide +kernel), congrArg (Value.int .u64) (by decide +kernel)⟩
  case round =>
    obtain ⟨rfl, rfl⟩ := hrel
    go_wp2
    go_loop [18, 16] (fun a b => a = .int .u64 1349846864 ∧ b = .int .u64 1073741824) (fun _ _ => 0)
    case atStart => exact ⟨congrArg (Value.int .u64) (by decide +kernel), congrArg (Value.int .u64) (by decide +kernel)⟩
    case round =>
      obtain ⟨rfl, rfl⟩ := hrel
      go_wp2
      go_ret2
      exact ⟨⟨527049830677415760, ret2_u64 (by decide +kernel) (by decide +kernel)⟩, rfl⟩
theorem Rem64_c35 (w : World) : Calls Tryd.prog 23 #[.int .u64 1, .int .u64 0, .int .u64 35] w fun e w' => e = .returned (.int .u64 16) ∧ w = w' := by
  go_enter Tryd.func23, Tryd.ntmps23
  go_wp2_with (go_at_call 27; refine (Div64_c35 _).mono ?_; rintro e w' ⟨⟨q, rfl⟩, rfl⟩)
  go_ret
  exact ⟨rfl, rfl⟩
set_option maxRecDepth 100000 in
theorem Len64_c36 (w : World) : Calls Tryd.prog 43 #[.int .u64 36] w fun e w' => e = .returned (.int .i64 6) ∧ w = w' := by
  go_enter Tryd.func43, Tryd.ntmps43
  go_wp2
  go_ret
  refine ⟨?_, rfl⟩
  exact congrArg (fun x => Ending.returned (.int .i64 x)) (by decide +kernel)
theorem Lead_c36 (w : World) : Calls Tryd.prog 38 #[.int .u64 36] w fun e w' => e = .returned (.int .i64 58) ∧ w = w' := by
  go_enter Tryd.func38, Tryd.ntmps38
  go_wp2_with (go_at_call 43; refine (Len64_c36 _).mono ?_; rintro e w' ⟨rfl, rfl⟩)
  go_ret
  exact ⟨rfl, rfl⟩
set_option maxRecDepth 100000 in
theorem Div64_c36 (w : World) : Calls Tryd.prog 27 #[.int .u64 1, .int .u64 0, .int .u64 36] w fun e w' => (∃ q : Int, e = .returned (.tuple #[.int .u64 q, .int .u64 16])) ∧ w = w' := by
  have hb1 : bits .or .u64 288230376151711744 0 = 288230376151711744 := by decide +kernel
  have hb2 : bits .and .u64 10376293541461622784 4294967295 = 0 := by decide +kernel
  have hb3 : bits .and .u64 0 4294967295 = 0 := by decide +kernel
  go_enter Tryd.func27, Tryd.ntmps27
  go_wp2_with (go_at_call 38; refine (Lead_c36 _).mono ?_; rintro e w' ⟨rfl, rfl⟩)
  go_loop [15, 16] (fun a b => a = .int .u64 119304647 ∧ b = .int .u64 268435456) (fun _ _ => 0)
  case atStart => exact ⟨congrArg (Value.int .u64) (by decide +kernel), congrArg (Value.int .u64) (by decide +kernel)⟩
  case round =>
    obtain ⟨rfl, rfl⟩ := hrel
    go_wp2
    go_loop [18, 16] (fun a b => a = .int .u64 477218588 ∧ b = .int .u64 1073741824) (fun _ _ => 0)
    case atStart => exact ⟨congrArg (Value.int .u64) (by decide +kernel), congrArg (Value.int .u64) (by decide +kernel)⟩
    case round =>
      obtain ⟨rfl, rfl⟩ := hrel
      go_wp2
      go_ret2
      exact ⟨⟨512409557603043100, ret2_u64 (by decide +kernel) (by decide +kernel)⟩, rfl⟩
theorem Rem64_c36 (w : World) : Calls Tryd.prog 23 #[.int .u64 1, .int .u64 0, .int .u64 36] w fun e w' => e = .returned (.int .u64 16) ∧ w = w' := by
  go_enter Tryd.func23, Tryd.ntmps23
  go_wp2_with (go_at_call 27; refine (Div64_c36 _).mono ?_; rintro e w' ⟨⟨q, rfl⟩, rfl⟩)
  go_ret
  exact ⟨rfl, rfl⟩
set_option maxRecDepth 100000 in
theorem Len64_c37 (w : World) : Calls Tryd.prog 43 #[.int .u64 37] w fun e w' => e = .returned (.int .i64 6) ∧ w = w' := by
  go_enter Tryd.func43, Tryd.ntmps43
  go_wp2
  go_ret
  refine ⟨?_, rfl⟩
  exact congrArg (fun x => Ending.returned (.int .i64 x)) (by decide +kernel)
theorem Lead_c37 (w : World) : Calls Tryd.prog 38 #[.int .u64 37] w fun e w' => e = .returned (.int .i64 58) ∧ w = w' := by
  go_enter Tryd.func38, Tryd.ntmps38
  go_wp2_with (go_at_call 43; refine (Len64_c37 _).mono ?_; rintro e w' ⟨rfl, rfl⟩)
  go_ret
  exact ⟨rfl, rfl⟩
set_option maxRecDepth 100000 in
theorem Div64_c37 (w : World) : Calls Tryd.prog 27 #[.int .u64 1, .int .u64 0, .int .u64 37] w fun e w' => (∃ q : Int, e = .returned (.tuple #[.int .u64 q, .int .u64 12])) ∧ w = w' := by
  have hb1 : bits .or .u64 288230376151711744 0 = 288230376151711744 := by decide +kernel
  have hb2 : bits .and .u64 10664523917613334528 4294967295 = 0 := by decide +kernel
  have hb3 : bits .and .u64 0 4294967295 = 0 := by decide +kernel
  go_enter Tryd.func27, Tryd.ntmps27
  go_wp2_with (go_at_call 38; refine (Lead_c37 _).mono ?_; rintro e w' ⟨rfl, rfl⟩)
  go_loop [15, 16] (fun a b => a = .int .u64 116080197 ∧ b = .int .u64 469762048) (fun _ _ => 0)
  case atStart => exact ⟨congrArg (Value.int .u64) (by decide +kernel), congrArg (Value.int .u64) (by decide +kernel)⟩
  case round =>
    obtain ⟨rfl, rfl⟩ := hrel
    go_wp2
    go_loop [18, 16] (fun a b => a = .int .u64 812561380 ∧ b = .int .u64 805306368) (fun _ _ => 0)
    case atStart => exact ⟨congrArg (Value.int .u64) (by decide +kernel), congrArg (Value.int .u64) (by decide +kernel)⟩
    case round =>
      obtain ⟨rfl, rfl⟩ := hrel
      go_wp2
      go_ret2
      exact ⟨⟨498560650640798692, ret2_u64 (by decide +kernel) (by decide +kernel)⟩, rfl⟩
theorem Rem64_c37 (w : World) : Calls Tryd.prog 23 #[.int .u64 1, .int .u64 0, .int .u64 37] w fun e w' => e = .returned (.int .u64 12) ∧ w = w' := by
  go_enter Tryd.func23, Tryd.ntmps23
  go_wp2_with (go_at_call 27; refine (Div64_c37 _).mono ?_; rintro e w' ⟨⟨q, rfl⟩, rfl⟩)
  go_ret
  exact ⟨rfl, rfl⟩
set_option maxRecDepth 100000 in
theorem Len64_c38 (w : World) : Calls Tryd.prog 43 #[.int .u64 38] w fun e w' => e = .returned (.int .i64 6) ∧ w = w' := by
  go_enter Tryd.func43, Tryd.ntmps43
  go_wp2
  go_ret
  refine ⟨?_, rfl⟩
  exact congrArg (fun x => Ending.returned (.int .i64 x)) (by decide +kernel)
theorem Lead_c38 (w : World) : Calls Tryd.prog 38 #[.int .u64 38] w fun e w' => e = .returned (.int .i64 58) ∧ w = w' := by
  go_enter Tryd.func38, Tryd.ntmps38
  go_wp2_with (go_at_call 43; refine (Len64_c38 _).mono ?_; rintro e w' ⟨rfl, rfl⟩)
  go_ret
  exact ⟨rfl, rfl⟩
set_option maxRecDepth 100000 in
theorem Div64_c38 (w : World) : Calls Tryd.prog 27 #[.int .u64 1, .int .u64 0, .int .u64 38] w fun e w' => (∃ q : Int, e = .returned (.tuple #[.int .u64 q, .int .u64 36])) ∧ w = w' := by
  have hb1 : bits .or .u64 288230376151711744 0 = 288230376151711744 := by decide +kernel
  have hb2 : bits .and .u64 10952754293765046272 4294967295 = 0 := by decide +kernel
  have hb3 : bits .and .u64 0 4294967295 = 0 := by decide +kernel
  go_enter Tryd.func27, Tryd.ntmps27
  go_wp2_with (go_at_call 38; refine (Lead_c38 _).mono ?_; rintro e w' ⟨rfl, rfl⟩)
  go_loop [15, 16] (fun a b => a = .int .u64 113025455 ∧ b = .int .u64 402653184) (fun _ _ => 0)
  case atStart => exact ⟨congrArg (Value.int .u64) (by decide +kernel), congrArg (Value.int .u64) (by decide +kernel)⟩
  case round =>
    obtain ⟨rfl, rfl⟩ := hrel
    go_wp2
    go_loop [18, 16] (fun a b => a = .int .u64 678152730 ∧ b = .int .u64 2415919104) (fun _ _ => 0)
    case atStart => exact ⟨congrArg (Value.int .u64) (by decide +kernel), congrArg (Value.int .u64) (by decide +kernel)⟩
    case round =>
      obtain ⟨rfl, rfl⟩ := hrel
      go_wp2
      go_ret2
      exact ⟨⟨485440633518672410, ret2_u64 (by decide +kernel) (by decide +kernel)⟩, rfl⟩
theorem Rem64_c38 (w : World) : Calls Tryd.prog 23 #[.int .u64 1, .int .u64 0, .int .u64 38] w fun e w' => e = .returned (.int .u64 36) ∧ w = w' := by
  go_enter Tryd.func23, Tryd.ntmps23
  go_wp2_with (go_at_call 27; refine (Div64_c38 _).mono ?_; rintro e w' ⟨⟨q, rfl⟩, rfl⟩)
  go_ret
  exact ⟨rfl, rfl⟩
set_option maxRecDepth 100000 in
theorem Len64_c39 (w : World) : Calls Tryd.prog 43 #[.int .u64 39] w fun e w' => e = .returned (.int .i64 6) ∧ w = w' := by
  go_enter Tryd.func43, Tryd.ntmps43
  go_wp2
  go_ret
  refine ⟨?_, rfl⟩
  exact congrArg (fun x => Ending.returned (.int .i64 x)) (by decide +kernel)
theorem Lead_c39 (w : World) : Calls Tryd.prog 38 #[.int .u64 39] w fun e w' => e = .returned (.int .i64 58) ∧ w = w' := by
  go_enter Tryd.func38, Tryd.ntmps38
  go_wp2_with (go_at_call 43; refine (Len64_c39 _).mono ?_; rintro e w' ⟨rfl, rfl⟩)
  go_ret
  exact ⟨rfl, rfl⟩
set_option maxRecDepth 100000 in
theorem Div64_c39 (w : World) : Calls Tryd.prog 27 #[.int .u64 1, .int .u64 0, .int .u64 39] w fun e w' => (∃ q : Int, e = .returned (.tuple #[.int .u64 q, .int .u64 16])) ∧ w = w' := by
  have hb1 : bits .or .u64 288230376151711744 0 = 288230376151711744 := by decide +kernel
  have hb2 : bits .and .u64 11240984669916758016 4294967295 = 0 := by decide +kernel
  have hb3 : bits .and .u64 0 4294967295 = 0 := by decide +kernel
  go_enter Tryd.func27, Tryd.ntmps27
  go_wp2_with (go_at_call 38; refine (Lead_c39 _).mono ?_; rintro e w' ⟨rfl, rfl⟩)
  go_loop [15, 16] (fun a b => a = .int .u64 110127366 ∧ b = .int .u64 1476395008) (fun _ _ => 0)
  case atStart => exact ⟨congrArg (Value.int .u64) (by decide +kernel), congrArg (Value.int .u64) (by decide +kernel)⟩
  case round =>
    obtain ⟨rfl, rfl⟩ := hrel
    go_wp2
    go_loop [18, 16] (fun a b => a = .int .u64 2422802064 ∧ b = .int .u64 1073741824) (fun _ _ => 0)
    case atStart => exact ⟨congrArg (Value.int .u64) (by decide +kernel), congrArg (Value.int .u64) (by decide +kernel)⟩
    case round =>
      obtain ⟨rfl, rfl⟩ := hrel
      go_wp2
      go_ret2
      exact ⟨⟨472993437787424400, ret2_u64 (by decide +kernel) (by decide +kernel)⟩, rfl⟩
theorem Rem64_c39 (w : World) : Calls Tryd.prog 23 #[.int .u64 1, .int .u64 0, .int .u64 39] w fun e w' => e = .returned (.int .u64 16) ∧ w = w' := by
  go_enter Tryd.func23, Tryd.ntmps23
  go_wp2_with (go_at_call 27; refine (Div64_c39 _).mono ?_; rintro e w' ⟨⟨q, rfl⟩, rfl⟩)
  go_ret
  exact ⟨rfl, rfl⟩
set_option maxRecDepth 100000 in
theorem Len64_c40 (w : World) : Calls Tryd.prog 43 #[.int .u64 40] w fun e w' => e = .returned (.int .i64 6) ∧ w = w' := by
  go_enter Tryd.func43, Tryd.ntmps43
  go_wp2
  go_ret
  refine ⟨?_, rfl⟩
  exact congrArg (fun x => Ending.returned (.int .i64 x)) (by decide +kernel)
theorem Lead_c40 (w : World) : Calls Tryd.prog 38 #[.int .u64 40] w fun e w' => e = .returned (.int .i64 58) ∧ w = w' := by
  go_enter Tryd.func38, Tryd.ntmps38
  go_wp2_with (go_at_call 43; refine (Len64_c40 _).mono ?_; rintro e w' ⟨rfl, rfl⟩)
  go_ret
  exact ⟨rfl, rfl⟩
set_option maxRecDepth 100000 in
theorem Div64_c40 (w : World) : Calls Tryd.prog 27 #[.int .u64 1, .int .u64 0, .int .u64 40] w fun e w' => (∃ q : Int, e = .returned (.tuple #[.int .u64 q, .int .u64 16])) ∧ w = w' := by
  have hb1 : bits .or .u64 288230376151711744 0 = 288230376151711744 := by decide +kernel
  have hb2 : bits .and .u64 11529215046068469760 4294967295 = 0 := by decide +kernel
  have hb3 : bits .and .u64 0 4294967295 = 0 := by decide +kernel
  go_enter Tryd.func27, Tryd.ntmps27
  go_wp2_with (go_at_call 38; refine (Lead_c40 _).mono ?_; rintro e w' ⟨rfl, rfl⟩)
  go_loop [15, 16] (fun a b => a = .int .u64 107374182 ∧ b = .int .u64 1073741824) (fun _ _ => 0)
  case atStart => exact ⟨congrArg (Value.int .u64) (by decide +kernel), congrArg (Value.int .u64) (by decide +kernel)⟩
  case round =>
    obtain ⟨rfl, rfl⟩ := hrel
    go_wp2
    go_loop [18, 16] (fun a b => a = .int .u64 1717986918 ∧ b = .int .u64 1073741824) (fun _ _ => 0)
    case atStart => exact ⟨congrArg (Value.int .u64) (by decide +kernel), congrArg (Value.int .u64) (by decide +kernel)⟩
    case round =>
      obtain ⟨rfl, rfl⟩ := hrel
      go_wp2
      go_ret2
      exact ⟨⟨461168601842738790, ret2_u64 (by decide +kernel) (by decide +kernel)⟩, rfl⟩
theorem Rem64_c40 (w : World) : Calls Tryd.prog 23 #[.int .u64 1, .int .u64 0, .int .u64 40] w fun e w' => e = .returned (.int .u64 16) ∧ w = w' := by
  go_enter Tryd.func23, Tryd.ntmps23
  go_wp2_with (go_at_call 27; refine (Div64_c40 _).mono ?_; rintro e w' ⟨⟨q, rfl⟩, rfl⟩)
  go_ret
  exact ⟨rfl, rfl⟩
set_option maxRecDepth 100000 in
theorem Len64_c41 (w : World) : Calls Tryd.prog 43 #[.int .u64 41] w fun e w' => e = .returned (.int .i64 6) ∧ w = w' := by
  go_enter Tryd.func43, Tryd.ntmps43
  go_wp2
  go_ret
  refine ⟨?_, rfl⟩
  exact congrArg (fun x => Ending.returned (.int .i64 x)) (by decide +kernel)
theorem Lead_c41 (w : World) : Calls Tryd.prog 38 #[.int .u64 41] w fun e w' => e = .returned (.int .i64 58) ∧ w = w' := by
  go_enter Tryd.func38, Tryd.ntmps38
  go_wp2_with (go_at_call 43; refine (Len64_c41 _).mono ?_; rintro e w' ⟨rfl, rfl⟩)
  go_ret
  exact ⟨rfl, rfl⟩
set_option maxRecDepth 100000 in
theorem Div64_c41 (w : World) : Calls Tryd.prog 27 #[.int .u64 1, .int .u64 0, .int .u64 41] w fun e w' => (∃ q : Int, e = .returned (.tuple #[.int .u64 q, .int .u64 16])) ∧ w = w' := by
  have hb1 : bits .or .u64 288230376151711744 0 = 288230376151711744 := by decide +kernel
  have hb2 : bits .and .u64 11817445422220181504 4294967295 = 0 := by decide +kernel
  have hb3 : bits .and .u64 0 4294967295 = 0 := by decide +kernel
  go_enter Tryd.func27, Tryd.ntmps27
  go_wp2_with (go_at_call 38; refine (Lead_c41 _).mono ?_; rintro e w' ⟨rfl, rfl⟩)
  go_loop [15, 16] (fun a b => a = .int .u64 104755299 ∧ b = .int .u64 2483027968) (fun _ _ => 0)
  case atStart => exact ⟨congrArg (Value.int .u64) (by decide +kernel), congrArg (Value.int .u64) (by decide +kernel)⟩
  case round =>
    obtain ⟨rfl, rfl⟩ := hrel
    go_wp2
    go_loop [18, 16] (fun a b => a = .int .u64 3875946096 ∧ b = .int .u64 1073741824) (fun _ _ => 0)
    case atStart => exact ⟨congrArg (Value.int .u64) (by decide +kernel), congrArg (Value.int .u64) (by decide +kernel)⟩
    case round =>
      obtain ⟨rfl, rfl⟩ := hrel
      go_wp2
      go_ret2
      exact ⟨⟨449920587163647600, ret2_u64 (by decide +kernel) (by decide +kernel)⟩, rfl⟩
theorem Rem64_c41 (w : World) : Calls Tryd.prog 23 #[.int .u64 1, .int .u64 0, .int .u64 41] w fun e w' => e = .returned (.int .u64 16) ∧ w = w' := by
  go_enter Tryd.func23, Tryd.ntmps23
  go_wp2_with (go_at_call 27; refine (Div64_c41 _).mono ?_; rintro e w' ⟨⟨q, rfl⟩, rfl⟩)
  go_ret
  exact ⟨rfl, rfl⟩
set_option maxRecDepth 100000 in
theorem Len64_c42 (w : World) : Calls Tryd.prog 43 #[.int .u64 42] w fun e w' => e = .returned (.int .i64 6) ∧ w = w' := by
  go_enter Tryd.func43, Tryd.ntmps43
  go_wp2
  go_ret
  refine ⟨?_, rfl⟩
  exact congrArg (fun x => Ending.returned (.int .i64 x)) (by decide +kernel)
theorem Lead_c42 (w : World) : Calls Tryd.prog 38 #[.int .u64 42] w fun e w' => e = .returned (.int .i64 58) ∧ w = w' := by
  go_enter Tryd.func38, Tryd.ntmps38
  go_wp2_with (go_at_call 43; refine (Len64_c42 _).mono ?_; rintro e w' ⟨rfl, rfl⟩)
  go_ret
  exact ⟨rfl, rfl⟩
set_option maxRecDepth 100000 in
theorem Div64_c42 (w : World) : Calls Tryd.prog 27 #[.int .u64 1, .int .u64 0, .int .u64 42] w fun e w' => (∃ q : Int, e = .returned (.tuple #[.int .u64 q, .int .u64 16])) ∧ w = w' := by
  have hb1 : bits .or .u64 288230376151711744 0 = 288230376151711744 := by decide +kernel
  have hb2 : bits .and .u64 12105675798371893248 4294967295 = 0 := by decide +kernel
  have hb3 : bits .and .u64 0 4294967295 = 0 := by decide +kernel
  go_enter Tryd.func27, Tryd.ntmps27
  go_wp2_with (go_at_call 38; refine (Lead_c42 _).mono ?_; rintro e w' ⟨rfl, rfl⟩)
  go_loop [15, 16] (fun a b => a = .int .u64 102261126 ∧ b = .int .u64 268435456) (fun _ _ => 0)
  case atStart => exact ⟨congrArg (Value.int .u64) (by decide +kernel), congrArg (Value.int .u64) (by decide +kernel)⟩
  case round =>
    obtain ⟨rfl, rfl⟩ := hrel
    go_wp2
    go_loop [18, 16] (fun a b => a = .int .u64 409044504 ∧ b = .int .u64 1073741824) (fun _ _ => 0)
    case atStart => exact ⟨congrArg (Value.int .u64) (by decide +kernel), congrArg (Value.int .u64) (by decide +kernel)⟩
    case round =>
      obtain ⟨rfl, rfl⟩ := hrel
      go_wp2
      go_ret2
      exact ⟨⟨439208192231179800, ret2_u64 (by decide +kernel) (by decide +kernel)⟩, rfl⟩
theorem Rem64_c42 (w : World) : Calls Tryd.prog 23 #[.int .u64 1, .int .u64 0, .int .u64 42] w fun e w' => e = .returned (.int .u64 16) ∧ w = w' := by
  go_enter Tryd.func23, Tryd.ntmps23
  go_wp2_with (go_at_call 27; refine (Div64_c42 _).mono ?_; rintro e w' ⟨⟨q, rfl⟩, rfl⟩)
  go_ret
  exact ⟨rfl, rfl⟩
set_option maxRecDepth 100000 in
theorem Len64_c43 (w : World) : Calls Tryd.prog 43 #[.int .u64 43] w fun e w' => e = .returned (.int .i64 6) ∧ w = w' := by
  go_enter Tryd.func43, Tryd.ntmps43
  go_wp2
  go_ret
  refine ⟨?_, rfl⟩
  exact congrArg (fun x => Ending.returned (.int .i64 x)) (by decide +kernel)
theorem Lead_c43 (w : World) : Calls Tryd.prog 38 #[.int .u64 43] w fun e w' => e = .returned (.int .i64 58) ∧ w = w' := by
  go_enter Tryd.func38, Tryd.ntmps38
  go_wp2_with (go_at_call 43; refine (Len64_c43 _).mono ?_; rintro e w' ⟨rfl, rfl⟩)
  go_ret
  exact ⟨rfl, rfl⟩
set_option maxRecDepth 100000 in
theorem Div64_c43 (w : World) : Calls Tryd.prog 27 #[.int .u64 1, .int .u64 0, .int .u64 43] w fun e w' => (∃ q : Int, e = .returned (.tuple #[.int .u64 q, .int .u64 41])) ∧ w = w' := by
  have hb1 : bits .or .u64 288230376151711744 0 = 288230376151711744 := by decide +kernel
  have hb2 : bits .and .u64 12393906174523604992 4294967295 = 0 := by decide +kernel
  have hb3 : bits .and .u64 0 4294967295 = 0 := by decide +kernel
  go_enter Tryd.func27, Tryd.ntmps27
  go_wp2_with (go_at_call 38; refine (Lead_c43 _).mono ?_; rintro e w' ⟨rfl, rfl⟩)
  go_loop [15, 16] (fun a b => a = .int .u64 99882960 ∧ b = .int .u64 1073741824) (fun _ _ => 0)
  case atStart => exact ⟨congrArg (Value.int .u64) (by decide +kernel), congrArg (Value.int .u64) (by decide +kernel)⟩
  case round =>
    obtain ⟨rfl, rfl⟩ := hrel
    go_wp2
    go_loop [18, 16] (fun a b => a = .int .u64 1598127365 ∧ b = .int .u64 2751463424) (fun _ _ => 0)
    case atStart => exact ⟨congrArg (Value.int .u64) (by decide +kernel), congrArg (Value.int .u64) (by decide +kernel)⟩
    case round =>
      obtain ⟨rfl, rfl⟩ := hrel
      go_wp2
      go_ret2
      exact ⟨⟨428994048225803525, ret2_u64 (by decide +kernel) (by decide +kernel)⟩, rfl⟩
theorem Rem64_c43 (w : World) : Calls Tryd.prog 23 #[.int .u64 1, .int .u64 0, .int .u64 43] w fun e w' => e = .returned (.int .u64 41) ∧ w = w' := by
  go_enter Tryd.func23, Tryd.ntmps23
  go_wp2_with (go_at_call 27; refine (Div64_c43 _).mono ?_; rintro e w' ⟨⟨q, rfl⟩, rfl⟩)
  go_ret
  exact ⟨rfl, rfl⟩
set_option maxRecDepth 100000 in
theorem Len64_c44 (w : World) : Calls Tryd.prog 43 #[.int .u64 44] w fun e w' => e = .returned (.int .i64 6) ∧ w = w' := by
  go_enter Tryd.func43, Tryd.ntmps43
  go_wp2
  go_ret
  refine ⟨?_, rfl⟩
  exact congrArg (fun x => Ending.returned (.int .i64 x)) (by decide +kernel)
theorem Lead_c44 (w : World) : Calls Tryd.prog 38 #[.int .u64 44] w fun e w' => e = .returned (.int .i64 58) ∧ w = w' := by
  go_enter Tryd.func38, Tryd.ntmps38
  go_wp2_with (go_at_call 43; refine (Len64_c44 _).mono ?_; rintro e w' ⟨rfl, rfl⟩)
  go_ret
  exact ⟨rfl, rfl⟩
set_option maxRecDepth 100000 in
theorem Div64_c44 (w : World) : Calls Tryd.prog 27 #[.int .u64 1, .int .u64 0, .int .u64 44] w fun e w' => (∃ q : Int, e = .returned (.tuple #[.int .u64 q, .int .u64 16])) ∧ w = w' := by
  have hb1 : bits .or .u64 288230376151711744 0 = 288230376151711744 := by decide +kernel
  have hb2 : bits .and .u64 12682136550675316736 4294967295 = 0 := by decide +kernel
  have hb3 : bits .and .u64 0 4294967295 = 0 := by decide +kernel
  go_enter Tryd.func27, Tryd.ntmps27
  go_wp2_with (go_at_call 38; refine (Lead_c44 _).mono ?_; rintro e w' ⟨rfl, rfl⟩)
  go_loop [15, 16] (fun a b => a = .int .u64 97612893 ∧ b = .int .u64 268435456) (fun _ _ => 0)
  case atStart => exact ⟨congrArg (Value.int .u64) (by decide +kernel), congrArg (Value.int .u64) (by decide +kernel)⟩
  case round =>
    obtain ⟨rfl, rfl⟩ := hrel
    go_wp2
    go_loop [18, 16] (fun a b => a = .int .u64 390451572 ∧ b = .int .u64 1073741824) (fun _ _ => 0)
    case atStart => exact ⟨congrArg (Value.int .u64) (by decide +kernel), congrArg (Value.int .u64) (by decide +kernel)⟩
    case round =>
      obtain ⟨rfl, rfl⟩ := hrel
      go_wp2
      go_ret2
      exact ⟨⟨419244183493398900, ret2_u64 (by decide +kernel) (by decide +kernel)⟩, rfl⟩
theorem Rem64_c44 (w : World) : Calls Tryd.prog 23 #[.int .u64 1, .int .u64 0, .int .u64 44] w fun e w' => e = .returned (.int .u64 16) ∧ w = w' := by
  go_enter Tryd.func23, Tryd.ntmps23
  go_wp2_with (go_at_call 27; refine (Div64_c44 _).mono ?_; rintro e w' ⟨⟨q, rfl⟩, rfl⟩)
  go_ret
  exact ⟨rfl, rfl⟩
set_option maxRecDepth 100000 in
theorem Len64_c45 (w : World) : Calls Tryd.prog 43 #[.int .u64 45] w fun e w' => e = .returned (.int .i64 6) ∧ w = w' := by
  go_enter Tryd.func43, Tryd.ntmps43
  go_wp2
  go_ret
  refine ⟨?_, rfl⟩
  exact congrArg (fun x => Ending.returned (.int .i64 x)) (by decide +kernel)
theorem Lead_c45 (w : World) : Calls Tryd.prog 38 #[.int .u64 45] w fun e w' => e = .returned (.int .i64 58) ∧ w = w' := by
  go_enter Tryd.func38, Tryd.ntmps38
  go_wp2_with (go_at_call 43; refine (Len64_c45 _).mono ?_; rintro e w' ⟨rfl, rfl⟩)
  go_ret
  exact ⟨rfl, rfl⟩
set_option maxRecDepth 100000 in
theorem Div64_c45 (w : World) : Calls Tryd.prog 27 #[.int .u64 1, .int .u64 0, .int .u64 45] w fun e w' => (∃ q : Int, e = .returned (.tuple #[.int .u64 q, .int .u64 16])) ∧ w = w' := by
  have hb1 : bits .or .u64 288230376151711744 0 = 288230376151711744 := by decide +kernel
  have hb2 : bits .and .u64 12970366926827028480 4294967295 = 0 := by decide +kernel
  have hb3 : bits .and .u64 0 4294967295 = 0 := by decide +kernel
  go_enter Tryd.func27, Tryd.ntmps27
  go_wp2_with (go_at_call 38; refine (Lead_c45 _).mono ?_; rintro e w' ⟨rfl, rfl⟩)
  go_loop [15, 16] (fun a b => a = .int .u64 95443717 ∧ b = .int .u64 2080374784) (fun _ _ => 0)
  case atStart => exact ⟨congrArg (Value.int .u64) (by decide +kernel), congrArg (Value.int .u64) (by decide +kernel)⟩
  case round =>
    obtain ⟨rfl, rfl⟩ := hrel
    go_wp2
    go_loop [18, 16] (fun a b => a = .int .u64 2958755248 ∧ b = .int .u64 1073741824) (fun _ _ => 0)
    case atStart => exact ⟨congrArg (Value.int .u64) (by decide +kernel), congrArg (Value.int .u64) (by decide +kernel)⟩
    case round =>
      obtain ⟨rfl, rfl⟩ := hrel
      go_wp2
      go_ret2
      exact ⟨⟨409927646082434480, ret2_u64 (by decide +kernel) (by decide +kernel)⟩, rfl⟩
theorem Rem64_c45 (w : World) : Calls Tryd.prog 23 #[.int .u64 1, .int .u64 0, .int .u64 45] w fun e w' => e = .returned (.int .u64 16) ∧ w = w' := by
  go_enter Tryd.func23, Tryd.ntmps23
  go_wp2_with (go_at_call 27; refine (Div64_c45 _).mono ?_; rintro e w' ⟨⟨q, rfl⟩, rfl⟩)
  go_ret
  exact ⟨rfl, rfl⟩
set_option maxRecDepth 100000 in
theorem Len64_c46 (w : World) : Calls Tryd.prog 43 #[.int .u64 46] w fun e w' => e = .returned (.int .i64 6) ∧ w = w' := by
  go_enter Tryd.func43, Tryd.ntmps43
  go_wp2
  go_ret
  refine ⟨?_, rfl⟩
  exact congrArg (fun x => Ending.returned (.int .i64 x)) (by decide +kernel)
theorem Lead_c46 (w : World) : Calls Tryd.prog 38 #[.int .u64 46] w fun e w' => e = .returned (.int .i64 58) ∧ w = w' := by
  go_enter Tryd.func38, Tryd.ntmps38
  go_wp2_with (go_at_call 43; refine (Len64_c46 _).mono ?_; rintro e w' ⟨rfl, rfl⟩)
  go_ret
  exact ⟨rfl, rfl⟩
set_option maxRecDepth 100000 in
theorem Div64_c46 (w : World) : Calls Tryd.prog 27 #[.int .u64 1, .int .u64 0, .int .u64 46] w fun e w' => (∃ q : Int, e = .returned (.tuple #[.int .u64 q, .int .u64 6])) ∧ w = w' := by
  have hb1 : bits .or .u64 288230376151711744 0 = 288230376151711744 := by decide +kernel
  have hb2 : bits .and .u64 13258597302978740224 4294967295 = 0 := by decide +kernel
  have hb3 : bits .and .u64 0 4294967295 = 0 := by decide +kernel
  go_enter Tryd.func27, Tryd.ntmps27
  go_wp2_with (go_at_call 38; refine (Lead_c46 _).mono ?_; rintro e w' ⟨rfl, rfl⟩)
  go_loop [15, 16] (fun a b => a = .int .u64 93368854 ∧ b = .int .u64 805306368) (fun _ _ => 0)
  case atStart => exact ⟨congrArg (Value.int .u64) (by decide +kernel), congrArg (Value.int .u64) (by decide +kernel)⟩
  case round =>
    obtain ⟨rfl, rfl⟩ := hrel
    go_wp2
    go_loop [18, 16] (fun a b => a = .int .u64 1120426251 ∧ b = .int .u64 402653184) (fun _ _ => 0)
    case atStart => exact ⟨congrArg (Value.int .u64) (by decide +kernel), congrArg (Value.int .u64) (by decide +kernel)⟩
    case round =>
      obtain ⟨rfl, rfl⟩ := hrel
      go_wp2
      go_ret2
      exact ⟨⟨401016175515425035, ret2_u64 (by decide +kernel) (by decide +kernel)⟩, rfl⟩
theorem Rem64_c46 (w : World) : Calls Tryd.prog 23 #[.int .u64 1, .int .u64 0, .int .u64 46] w fun e w' => e = .returned (.int .u64 6) ∧ w = w' := by
  go_enter Tryd.func23, Tryd.ntmps23
  go_wp2_with (go_at_call 27; refine (Div64_c46 _).mono ?_; rintro e w' ⟨⟨q, rfl⟩, rfl⟩)
  go_ret
  exact ⟨rfl, rfl⟩
set_option maxRecDepth 100000 in
theorem Len64_c47 (w : World) : Calls Tryd.prog 43 #[.int .u64 47] w fun e w' => e = .returned (.int .i64 6) ∧ w = w' := by
  go_enter Tryd.func43, Tryd.ntmps43
  go_wp2
  go_ret
  refine ⟨?_, rfl⟩
  exact congrArg (fun x => Ending.returned (.int .i64 x)) (by decide +kernel)
theorem Lead_c47 (w : World) : Calls Tryd.prog 38 #[.int .u64 47] w fun e w' => e = .returned (.int .i64 58) ∧ w = w' := by
  go_enter Tryd.func38, Tryd.ntmps38
  go_wp2_with (go_at_call 43; refine (Len64_c47 _).mono ?_; rintro e w' ⟨rfl, rfl⟩)
  go_ret
  exact ⟨rfl, rfl⟩
set_option maxRecDepth 100000 in
theorem Div64_c47 (w : World) : Calls Tryd.prog 27 #[.int .u64 1, .int .u64 0, .int .u64 47] w fun e w' => (∃ q : Int, e = .returned (.tuple #[.int .u64 q, .int .u64 25])) ∧ w = w' := by
  have hb1 : bits .or .u64 288230376151711744 0 = 288230376151711744 := by decide +kernel
  have hb2 : bits .and .u64 13546827679130451968 4294967295 = 0 := by decide +kernel
  have hb3 : bits .and .u64 0 4294967295 = 0 := by decide +kernel
  go_enter Tryd.func27, Tryd.ntmps27
  go_wp2_with (go_at_call 38; refine (Lead_c47 _).mono ?_; rintro e w' ⟨rfl, rfl⟩)
  go_loop [15, 16] (fun a b => a = .int .u64 91382282 ∧ b = .int .u64 2818572288) (fun _ _ => 0)
  case atStart => exact ⟨congrArg (Value.int .u64) (by decide +kernel), congrArg (Value.int .u64) (by decide +kernel)⟩
  case round =>
    obtain ⟨rfl, rfl⟩ := hrel
    go_wp2
    go_loop [18, 16] (fun a b => a = .int .u64 3838055881 ∧ b = .int .u64 1677721600) (fun _ _ => 0)
    case atStart => exact ⟨congrArg (Value.int .u64) (by decide +kernel), congrArg (Value.int .u64) (by decide +kernel)⟩
    case round =>
      obtain ⟨rfl, rfl⟩ := hrel
      go_wp2
      go_ret2
      exact ⟨⟨392483916461905353, ret2_u64 (by decide +kernel) (by decide +kernel)⟩, rfl⟩
theorem Rem64_c47 (w : World) : Calls Tryd.prog 23 #[.int .u64 1, .int .u64 0, .int .u64 47] w fun e w' => e = .returned (.int .u64 25) ∧ w = w' := by
  go_enter Tryd.func23, Tryd.ntmps23
  go_wp2_with (go_at_call 27; refine (Div64_c47 _).mono ?_; rintro e w' ⟨⟨q, rfl⟩, rfl⟩)
  go_ret
  exact ⟨rfl, rfl⟩
set_option maxRecDepth 100000 in
theorem Len64_c48 (w : World) : Calls Tryd.prog 43 #[.int .u64 48] w fun e w' => e = .returned (.int .i64 6) ∧ w = w' := by
  go_enter Tryd.func43, Tryd.ntmps43
  go_wp2
  go_ret
  refine ⟨?_, rfl⟩
  exact congrArg (fun x => Ending.returned (.int .i64 x)) (by decide +kernel)
theorem Lead_c48 (w : World) : Calls Tryd.prog 38 #[.int .u64 48] w fun e w' => e = .returned (.int .i64 58) ∧ w = w' := by
  go_enter Tryd.func38, Tryd.ntmps38
  go_wp2_with (go_at_call 43; refine (Len64_c48 _).mono ?_; rintro e w' ⟨rfl, rfl⟩)
  go_ret
  exact ⟨rfl, rfl⟩
set_option maxRecDepth 100000 in
theorem Div64_c48 (w : World) : Calls Tryd.prog 27 #[.int .u64 1, .int .u64 0, .int .u64 48] w fun e w' => (∃ q : Int, e = .returned (.tuple #[.int .u64 q, .int .u64 16])) ∧ w = w' := by
  have hb1 : bits .or .u64 288230376151711744 0 = 288230376151711744 := by decide +kernel
  have hb2 : bits .and .u64 13835058055282163712 4294967295 = 0 := by decide +kernel
  have hb3 : bits .and .u64 0 4294967295 = 0 := by decide +kernel
  go_enter Tryd.func27, Tryd.ntmps27
  go_wp2_with (go_at_call 38; refine (Lead_c48 _).mono ?_; rintro e w' ⟨rfl, rfl⟩)
  go_loop [15, 16] (fun a b => a = .int .u64 89478485 ∧ b = .int .u64 1073741824) (fun _ _ => 0)
  case atStart => exact ⟨congrArg (Value.int .u64) (by decide +kernel), congrArg (Value.int .u64) (by decide +kernel)⟩
  case round =>
    obtain ⟨rfl, rfl⟩ := hrel
    go_wp2
    go_loop [18, 16] (fun a b => a = .int .u64 1431655765 ∧ b = .int .u64 1073741824) (fun _ _ => 0)
    case atStart => exact ⟨congrArg (Value.int .u64) (by decide +kernel), congrArg (Value.int .u64) (by decide +kernel)⟩
    case round =>
      obtain ⟨rfl, rfl⟩ := hrel
      go_wp2
      go_ret2
      exact ⟨⟨384307168202282325, ret2_u64 (by decide +kernel) (by decide +kernel)⟩, rfl⟩
theorem Rem64_c48 (w : World) : Calls Tryd.prog 23 #[.int .u64 1, .int .u64 0, .int .u64 48] w fun e w' => e = .returned (.int .u64 16) ∧ w = w' := by
  go_enter Tryd.func23, Tryd.ntmps23
  go_wp2_with (go_at_call 27; refine (Div64_c48 _).mono ?_; rintro e w' ⟨⟨q, rfl⟩, rfl⟩)
  go_ret
  exact ⟨rfl, rfl⟩
set_option maxRecDepth 100000 in
theorem Len64_c49 (w : World) : Calls Tryd.prog 43 #[.int .u64 49] w fun e w' => e = .returned (.int .i64 6) ∧ w = w' := by
  go_enter Tryd.func43, Tryd.ntmps43
  go_wp2
  go_ret
  refine ⟨?_, rfl⟩
  exact congrArg (fun x => Ending.returned (.int .i64 x)) (by decide +kernel)
theorem Lead_c49 (w : World) : Calls Tryd.prog 38 #[.int .u64 49] w fun e w' => e = .returned (.int .i64 58) ∧ w = w' := by
  go_enter Tryd.func38, Tryd.ntmps38
  go_wp2_with (go_at_call 43; refine (Len64_c49 _).mono ?_; rintro e w' ⟨rfl, rfl⟩)
  go_ret
  exact ⟨rfl, rfl⟩
set_option maxRecDepth 100000 in
theorem Div64_c49 (w : World) : Calls Tryd.prog 27 #[.int .u64 1, .int .u64 0, .int .u64 49] w fun e w' => (∃ q : Int, e = .returned (.tuple #[.int .u64 q, .int .u64 2])) ∧ w = w' := by
  have hb1 : bits .or .u64 288230376151711744 0 = 288230376151711744 := by decide +kernel
  have hb2 : bits .and .u64 14123288431433875456 4294967295 = 0 := by decide +kernel
  have hb3 : bits .and .u64 0 4294967295 = 0 := by decide +kernel
  go_enter Tryd.func27, Tryd.ntmps27
  go_wp2_with (go_at_call 38; refine (Lead_c49 _).mono ?_; rintro e w' ⟨rfl, rfl⟩)
  go_loop [15, 16] (fun a b => a = .int .u64 87652393 ∧ b = .int .u64 2617245696) (fun _ _ => 0)
  case atStart => exact ⟨congrArg (Value.int .u64) (by decide +kernel), congrArg (Value.int .u64) (by decide +kernel)⟩
  case round =>
    obtain ⟨rfl, rfl⟩ := hrel
    go_wp2
    go_loop [18, 16] (fun a b => a = .int .u64 3418443358 ∧ b = .int .u64 134217728) (fun _ _ => 0)
    case atStart => exact ⟨congrArg (Value.int .u64) (by decide +kernel), congrArg (Value.int .u64) (by decide +kernel)⟩
    case round =>
      obtain ⟨rfl, rfl⟩ := hrel
      go_wp2
      go_ret2
      exact ⟨⟨376464164769582686, ret2_u64 (by decide +kernel) (by decide +kernel)⟩, rfl⟩
theorem Rem64_c49 (w : World) : Calls Tryd.prog 23 #[.int .u64 1, .int .u64 0, .int .u64 49] w fun e w' => e = .returned (.int .u64 2) ∧ w = w' := by
  go_enter Tryd.func23, Tryd.ntmps23
  go_wp2_with (go_at_call 27; refine (Div64_c49 _).mono ?_; rintro e w' ⟨⟨q, rfl⟩, rfl⟩)
  go_ret
  exact ⟨rfl, rfl⟩
set_option maxRecDepth 100000 in
theorem Len64_c50 (w : World) : Calls Tryd.prog 43 #[.int .u64 50] w fun e w' => e = .returned (.int .i64 6) ∧ w = w' := by
  go_enter Tryd.func43, Tryd.ntmps43
  go_wp2
  go_ret
  refine ⟨?_, rfl⟩
  exact congrArg (fun x => Ending.returned (.int .i64 x)) (by decide +kernel)
theorem Lead_c50 (w : World) : Calls Tryd.prog 38 #[.int .u64 50] w fun e w' => e = .returned (.int .i64 58) ∧ w = w' := by
  go_enter Tryd.func38, Tryd.ntmps38
  go_wp2_with (go_at_call 43; refine (Len64_c50 _).mono ?_; rintro e w' ⟨rfl, rfl⟩)
  go_ret
  exact ⟨rfl, rfl⟩
set_option maxRecDepth 100000 in
theorem Div64_c50 (w : World) : Calls Tryd.prog 27 #[.int .u64 1, .int .u64 0, .int .u64 50] w fun e w' => (∃ q : Int, e = .returned (.tuple #[.int .u64 q, .int .u64 16])) ∧ w = w' := by
  have hb1 : bits .or .u64 288230376151711744 0 = 288230376151711744 := by decide +kernel
  have hb2 : bits .and .u64 14411518807585587200 4294967295 = 0 := by decide +kernel
  have hb3 : bits .and .u64 0 4294967295 = 0 := by decide +kernel
  go_enter Tryd.func27, Tryd.ntmps27
  go_wp2_with (go_at_call 38; refine (Lead_c50 _).mono ?_; rintro e w' ⟨rfl, rfl⟩)
  go_loop [15, 16] (fun a b => a = .int .u64 85899345 ∧ b = .int .u64 3087007744) (fun _ _ => 0)
  case atStart => exact ⟨congrArg (Value.int .u64) (by decide +kernel), congrArg (Value.int .u64) (by decide +kernel)⟩
  case round =>
    obtain ⟨rfl, rfl⟩ := hrel
    go_wp2
    go_loop [18, 16] (fun a b => a = .int .u64 3951369912 ∧ b = .int .u64 1073741824) (fun _ _ => 0)
    case atStart => exact ⟨congrArg (Value.int .u64) (by decide +kernel), congrArg (Value.int .u64) (by decide +kernel)⟩
    case round =>
      obtain ⟨rfl, rfl⟩ := hrel
      go_wp2
      go_ret2
      exact ⟨⟨368934881474191032, ret2_u64 (by decide +kernel) (by decide +kernel)⟩, rfl⟩
theorem Rem64_c50 (w : World) : Calls Tryd.prog 23 #[.int .u64 1, .int .u64 0, .int .u64 50] w fun e w' => e = .returned (.int .u64 16) ∧ w = w' := by
  go_enter Tryd.func23, Tryd.ntmps23
  go_wp2_with (go_at_call 27; refine (Div64_c50 _).mono ?_; rintro e w' ⟨⟨q, rfl⟩, rfl⟩)
  go_ret
  exact ⟨rfl, rfl⟩
set_option maxRecDepth 100000 in
theorem Len64_c51 (w : World) : Calls Tryd.prog 43 #[.int .u64 51] w fun e w' => e = .returned (.int .i64 6) ∧ w = w' := by
  go_enter Tryd.func43, Tryd.ntmps43
  go_wp2
  go_ret
  refine ⟨?_, rfl⟩
  exact congrArg (fun x => Ending.returned (.int .i64 x)) (by decide +kernel)
theorem Lead_c51 (w : World) : Calls Tryd.prog 38 #[.int .u64 51] w fun e w' => e = .returned (.int .i64 58) ∧ w = w' := by
  go_enter Tryd.func38, Tryd.ntmps38
  go_wp2_with (go_at_call 43; refine (Len64_c51 _).mono ?_; rintro e w' ⟨rfl, rfl⟩)
  go_ret
  exact ⟨rfl, rfl⟩
set_option maxRecDepth 100000 in
theorem Div64_c51 (w : World) : Calls Tryd.prog 27 #[.int .u64 1, .int .u64 0, .int .u64 51] w fun e w' => (∃ q : Int, e = .returned (.tuple #[.int .u64 q, .int .u64 1])) ∧ w = w' := by
  have hb1 : bits .or .u64 288230376151711744 0 = 288230376151711744 := by decide +kernel
  have hb2 : bits .and .u64 14699749183737298944 4294967295 = 0 := by decide +kernel
  have hb3 : bits .and .u64 0 4294967295 = 0 := by decide +kernel
  go_enter Tryd.func27, Tryd.ntmps27
  go_wp2_with (go_at_call 38; refine (Lead_c51 _).mono ?_; rintro e w' ⟨rfl, rfl⟩)
  go_loop [15, 16] (fun a b => a = .int .u64 84215045 ∧ b = .int .u64 67108864) (fun _ _ => 0)
  case atStart => exact ⟨congrArg (Value.int .u64) (by decide +kernel), congrArg (Value.int .u64) (by decide +kernel)⟩
  case round =>
    obtain ⟨rfl, rfl⟩ := hrel
    go_wp2
    go_loop [18, 16] (fun a b => a = .int .u64 84215045 ∧ b = .int .u64 67108864) (fun _ _ => 0)
    case atStart => exact ⟨congrArg (Value.int .u64) (by decide +kernel), congrArg (Value.int .u64) (by decide +kernel)⟩
    case round =>
      obtain ⟨rfl, rfl⟩ := hrel
      go_wp2
      go_ret2
      exact ⟨⟨361700864190383365, ret2_u64 (by decide +kernel) (by decide +kernel)⟩, rfl⟩
theorem Rem64_c51 (w : World) : Calls Tryd.prog 23 #[.int .u64 1, .int .u64 0, .int .u64 51] w fun e w' => e = .returned (.int .u64 1) ∧ w = w' := by
  go_enter Tryd.func23, Tryd.ntmps23
  go_wp2_with (go_at_call 27; refine (Div64_c51 _).mono ?_; rintro e w' ⟨⟨q, rfl⟩, rfl⟩)
  go_ret
  exact ⟨rfl, rfl⟩
set_option maxRecDepth 100000 in
theorem Len64_c52 (w : World) : Calls Tryd.prog 43 #[.int .u64 52] w fun e w' => e = .returned (.int .i64 6) ∧ w = w' := by
  go_enter Tryd.func43, Tryd.ntmps43
  go_wp2
  go_ret
  refine ⟨?_, rfl⟩
  exact congrArg (fun x => Ending.returned (.int .i64 x)) (by decide +kernel)
theorem Lead_c52 (w : World) : Calls Tryd.prog 38 #[.int .u64 52] w fun e w' => e = .returned (.int .i64 58) ∧ w = w' := by
  go_enter Tryd.func38, Tryd.ntmps38
  go_wp2_with (go_at_call 43; refine (Len64_c52 _).mono ?_; rintro e w' ⟨rfl, rfl⟩)
  go_ret
  exact ⟨rfl, rfl⟩
set_option maxRecDepth 100000 in
theorem Div64_c52 (w : World) : Calls Tryd.prog 27 #[.int .u64 1, .int .u64 0, .int .u64 52] w fun e w' => (∃ q : Int, e = .returned (.tuple #[.int .u64 q, .int .u64 16])) ∧ w = w' := by
  have hb1 : bits .or .u64 288230376151711744 0 = 288230376151711744 := by decide +kernel
  have hb2 : bits .and .u64 14987979559889010688 4294967295 = 0 := by decide +kernel
  have hb3 : bits .and .u64 0 4294967295 = 0 := by decide +kernel
  go_enter Tryd.func27, Tryd.ntmps27
  go_wp2_with (go_at_call 38; refine (Lead_c52 _).mono ?_; rintro e w' ⟨rfl, rfl⟩)
  go_loop [15, 16] (fun a b => a = .int .u64 82595524 ∧ b = .int .u64 3221225472) (fun _ _ => 0)
  case atStart => exact ⟨congrArg (Value.int .u64) (by decide +kernel), congrArg (Value.int .u64) (by decide +kernel)⟩
  case round =>
    obtain ⟨rfl, rfl⟩ := hrel
    go_wp2
    go_loop [18, 16] (fun a b => a = .int .u64 3964585196 ∧ b = .int .u64 1073741824) (fun _ _ => 0)
    case atStart => exact ⟨congrArg (Value.int .u64) (by decide +kernel), congrArg (Value.int .u64) (by decide +kernel)⟩
    case round =>
      obtain ⟨rfl, rfl⟩ := hrel
      go_wp2
      go_ret2
      exact ⟨⟨354745078340568300, ret2_u64 (by decide +kernel) (by decide +kernel)⟩, rfl⟩
theorem Rem64_c52 (w : World) : Calls Tryd.prog 23 #[.int .u64 1, .int .u64 0, .int .u64 52] w fun e w' => e = .returned (.int .u64 16) ∧ w = w' := by
  go_enter Tryd.func23, Tryd.ntmps23
  go_wp2_with (go_at_call 27; refine (Div64_c52 _).mono ?_; rintro e w' ⟨⟨q, rfl⟩, rfl⟩)
  go_ret
  exact ⟨rfl, rfl⟩
set_option maxRecDepth 100000 in
theorem Len64_c53 (w : World) : Calls Tryd.prog 43 #[.int .u64 53] w fun e w' => e = .returned (.int .i64 6) ∧ w = w' := by
  go_enter Tryd.func43, Tryd.ntmps43
  go_wp2
  go_ret
  refine ⟨?_, rfl⟩
  exact congrArg (fun x => Ending.returned (.int .i64 x)) (by decide +kernel)
theorem Lead_c53 (w : World) : Calls Tryd.prog 38 #[.int .u64 53] w fun e w' => e = .returned (.int .i64 58) ∧ w = w' := by
  go_enter Tryd.func38, Tryd.ntmps38
  go_wp2_with (go_at_call 43; refine (Len64_c53 _).mono ?_; rintro e w' ⟨rfl, rfl⟩)
  go_ret
  exact ⟨rfl, rfl⟩
set_option maxRecDepth 100000 in
theorem Div64_c53 (w : World) : Calls Tryd.prog 27 #[.int .u64 1, .int .u64 0, .int .u64 53] w fun e w' => (∃ q : Int, e = .returned (.tuple #[.int .u64 q, .int .u64 15])) ∧ w = w' := by
  have hb1 : bits .or .u64 288230376151711744 0 = 288230376151711744 := by decide +kernel
  have hb2 : bits .and .u64 15276209936040722432 4294967295 = 0 := by decide +kernel
  have hb3 : bits .and .u64 0 4294967295 = 0 := by decide +kernel
  go_enter Tryd.func27, Tryd.ntmps27
  go_wp2_with (go_at_call 38; refine (Lead_c53 _).mono ?_; rintro e w' ⟨rfl, rfl⟩)
  go_loop [15, 16] (fun a b => a = .int .u64 81037118 ∧ b = .int .u64 2818572288) (fun _ _ => 0)
  case atStart => exact ⟨congrArg (Value.int .u64) (by decide +kernel), congrArg (Value.int .u64) (by decide +kernel)⟩
  case round =>
    obtain ⟨rfl, rfl⟩ := hrel
    go_wp2
    go_loop [18, 16] (fun a b => a = .int .u64 3403558989 ∧ b = .int .u64 1006632960) (fun _ _ => 0)
    case atStart => exact ⟨congrArg (Value.int .u64) (by decide +kernel), congrArg (Value.int .u64) (by decide +kernel)⟩
    case round =>
      obtain ⟨rfl, rfl⟩ := hrel
      go_wp2
      go_ret2
      exact ⟨⟨348051774975651917, ret2_u64 (by decide +kernel) (by decide +kernel)⟩, rfl⟩
theorem Rem64_c53 (w : World) : Calls Tryd.prog 23 #[.int .u64 1, .int .u64 0, .int .u64 53] w fun e w' => e = .returned (.int .u64 15) ∧ w = w' := by
  go_enter Tryd.func23, Tryd.ntmps23
  go_wp2_with (go_at_call 27; refine (Div64_c53 _).mono ?_; rintro e w' ⟨⟨q, rfl⟩, rfl⟩)
  go_ret
  exact ⟨rfl, rfl⟩
set_option maxRecDepth 100000 in
theorem Len64_c54 (w : World) : Calls Tryd.prog 43 #[.int .u64 54] w fun e w' => e = .returned (.int .i64 6) ∧ w = w' := by
  go_enter Tryd.func43, Tryd.ntmps43
  go_wp2
  go_ret
  refine ⟨?_, rfl⟩
  exact congrArg (fun x => Ending.returned (.int .i64 x)) (by decide +kernel)
theorem Lead_c54 (w : World) : Calls Tryd.prog 38 #[.int .u64 54] w fun e w' => e = .returned (.int .i64 58) ∧ w = w' := by
  go_enter Tryd.func38, Tryd.ntmps38
  go_wp2_with (go_at_call 43; refine (Len64_c54 _).mono ?_; rintro e w' ⟨rfl, rfl⟩)
  go_ret
  exact ⟨rfl, rfl⟩
set_option maxRecDepth 100000 in
theorem Div64_c54 (w : World) : Calls Tryd.prog 27 #[.int .u64 1, .int .u64 0, .int .u64 54] w fun e w' => (∃ q : Int, e = .returned (.tuple #[.int .u64 q, .int .u64 52])) ∧ w = w' := by
  have hb1 : bits .or .u64 288230376151711744 0 = 288230376151711744 := by decide +kernel
  have hb2 : bits .and .u64 15564440312192434176 4294967295 = 0 := by decide +kernel
  have hb3 : bits .and .u64 0 4294967295 = 0 := by decide +kernel
  go_enter Tryd.func27, Tryd.ntmps27
  go_wp2_with (go_at_call 38; refine (Lead_c54 _).mono ?_; rintro e w' ⟨rfl, rfl⟩)
  go_loop [15, 16] (fun a b => a = .int .u64 79536431 ∧ b = .int .u64 1476395008) (fun _ _ => 0)
  case atStart => exact ⟨congrArg (Value.int .u64) (by decide +kernel), congrArg (Value.int .u64) (by decide +kernel)⟩
  case round =>
    obtain ⟨rfl, rfl⟩ := hrel
    go_wp2
    go_loop [18, 16] (fun a b => a = .int .u64 1749801490 ∧ b = .int .u64 3489660928) (fun _ _ => 0)
    case atStart => exact ⟨congrArg (Value.int .u64) (by decide +kernel), congrArg (Value.int .u64) (by decide +kernel)⟩
    case round =>
      obtain ⟨rfl, rfl⟩ := hrel
      go_wp2
      go_ret2
      exact ⟨⟨341606371735362066, ret2_u64 (by decide +kernel) (by decide +kernel)⟩, rfl⟩
theorem Rem64_c54 (w : World) : Calls Tryd.prog 23 #[.int .u64 1, .int .u64 0, .int .u64 54] w fun e w' => e = .returned (.int .u64 52) ∧ w = w' := by
  go_enter Tryd.func23, Tryd.ntmps23
  go_wp2_with (go_at_call 27; refine (Div64_c54 _).mono ?_; rintro e w' ⟨⟨q, rfl⟩, rfl⟩)
  go_ret
  exact ⟨rfl, rfl⟩
set_option maxRecDepth 100000 in
theorem Len64_c55 (w : World) : Calls Tryd.prog 43 #[.int .u64 55] w fun e w' => e = .returned (.int .i64 6) ∧ w = w' := by
  go_enter Tryd.func43, Tryd.ntmps43
  go_wp2
  go_ret
  refine ⟨?_, rfl⟩
  exact congrArg (fun x => Ending.returned (.int .i64 x)) (by decide +kernel)
theorem Lead_c55 (w : World) : Calls Tryd.prog 38 #[.int .u64 55] w fun e w' => e = .returned (.int .i64 58) ∧ w = w' := by
  go_enter Tryd.func38, Tryd.ntmps38
  go_wp2_with (go_at_call 43; refine (Len64_c55 _).mono ?_; rintro e w' ⟨rfl, rfl⟩)
  go_ret
  exact ⟨rfl, rfl⟩
set_option maxRecDepth 100000 in
theorem Div64_c55 (w : World) : Calls Tryd.prog 27 #[.int .u64 1, .int .u64 0, .int .u64 55] w fun e w' => (∃ q : Int, e = .returned (.tuple #[.int .u64 q, .int .u64 16])) ∧ w = w' := by
  have hb1 : bits .or .u64 288230376151711744 0 = 288230376151711744 := by decide +kernel
  have hb2 : bits .and .u64 15852670688344145920 4294967295 = 0 := by decide +kernel
  have hb3 : bits .and .u64 0 4294967295 = 0 := by decide +kernel
  go_enter Tryd.func27, Tryd.ntmps27
  go_wp2_with (go_at_call 38; refine (Lead_c55 _).mono ?_; rintro e w' ⟨rfl, rfl⟩)
  go_loop [15, 16] (fun a b => a = .int .u64 78090314 ∧ b = .int .u64 1744830464) (fun _ _ => 0)
  case atStart => exact ⟨congrArg (Value.int .u64) (by decide +kernel), congrArg (Value.int .u64) (by decide +kernel)⟩
  case round =>
    obtain ⟨rfl, rfl⟩ := hrel
    go_wp2
    go_loop [18, 16] (fun a b => a = .int .u64 2030348176 ∧ b = .int .u64 1073741824) (fun _ _ => 0)
    case atStart => exact ⟨congrArg (Value.int .u64) (by decide +kernel), congrArg (Value.int .u64) (by decide +kernel)⟩
    case round =>
      obtain ⟨rfl, rfl⟩ := hrel
      go_wp2
      go_ret2
      exact ⟨⟨335395346794719120, ret2_u64 (by decide +kernel) (by decide +kernel)⟩, rfl⟩
theorem Rem64_c55 (w : World) : Calls Tryd.prog 23 #[.int .u64 1, .int .u64 0, .int .u64 55] w fun e w' => e = .returned (.int .u64 16) ∧ w = w' := by
  go_enter Tryd.func23, Tryd.ntmps23
  go_wp2_with (go_at_call 27; refine (Div64_c55 _).mono ?_; rintro e w' ⟨⟨q, rfl⟩, rfl⟩)
  go_ret
  exact ⟨rfl, rfl⟩
set_option maxRecDepth 100000 in
theorem Len64_c56 (w : World) : Calls Tryd.prog 43 #[.int .u64 56] w fun e w' => e = .returned (.int .i64 6) ∧ w = w' := by
  go_enter Tryd.func43, Tryd.ntmps43
  go_wp2
  go_ret
  refine ⟨?_, rfl⟩
  exact congrArg (fun x => Ending.returned (.int .i64 x)) (by decide +kernel)
theorem Lead_c56 (w : World) : Calls Tryd.prog 38 #[.int .u64 56] w fun e w' => e = .returned (.int .i64 58) ∧ w = w' := by
  go_enter Tryd.func38, Tryd.ntmps38
  go_wp2_with (go_at_call 43; refine (Len64_c56 _).mono ?_; rintro e w' ⟨rfl, rfl⟩)
  go_ret
  exact ⟨rfl, rfl⟩
set_option maxRecDepth 100000 in
theorem Div64_c56 (w : World) : Calls Tryd.prog 27 #[.int .u64 1, .int .u64 0, .int .u64 56] w fun e w' => (∃ q : Int, e = .returned (.tuple #[.int .u64 q, .int .u64 16])) ∧ w = w' := by
  have hb1 : bits .or .u64 288230376151711744 0 = 288230376151711744 := by decide +kernel
  have hb2 : bits .and .u64 16140901064495857664 4294967295 = 0 := by decide +kernel
  have hb3 : bits .and .u64 0 4294967295 = 0 := by decide +kernel
  go_enter Tryd.func27, Tryd.ntmps27
  go_wp2_with (go_at_call 38; refine (Lead_c56 _).mono ?_; rintro e w' ⟨rfl, rfl⟩)
  go_loop [15, 16] (fun a b => a = .int .u64 76695844 ∧ b = .int .u64 2147483648) (fun _ _ => 0)
  case atStart => exact ⟨congrArg (Value.int .u64) (by decide +kernel), congrArg (Value.int .u64) (by decide +kernel)⟩
  case round =>
    obtain ⟨rfl, rfl⟩ := hrel
    go_wp2
    go_loop [18, 16] (fun a b => a = .int .u64 2454267026 ∧ b = .int .u64 1073741824) (fun _ _ => 0)
    case atStart => exact ⟨congrArg (Value.int .u64) (by decide +kernel), congrArg (Value.int .u64) (by decide +kernel)⟩
    case round =>
      obtain ⟨rfl, rfl⟩ := hrel
      go_wp2
      go_ret2
      exact ⟨⟨329406144173384850, ret2_u64 (by decide +kernel) (by decide +kernel)⟩, rfl⟩
theorem Rem64_c56 (w : World) : Calls Tryd.prog 23 #[.int .u64 1, .int .u64 0, .int .u64 56] w fun e w' => e = .returned (.int .u64 16) ∧ w = w' := by
  go_enter Tryd.func23, Tryd.ntmps23
  go_wp2_with (go_at_call 27; refine (Div64_c56 _).mono ?_; rintro e w' ⟨⟨q, rfl⟩, rfl⟩)
  go_ret
  exact ⟨rfl, rfl⟩
set_option maxRecDepth 100000 in
theorem Len64_c57 (w : World) : Calls Tryd.prog 43 #[.int .u64 57] w fun e w' => e = .returned (.int .i64 6) ∧ w = w' := by
  go_enter Tryd.func43, Tryd.ntmps43
  go_wp2
  go_ret
  refine ⟨?_, rfl⟩
  exact congrArg (fun x => Ending.returned (.int .i64 x)) (by decide +kernel)
theorem Lead_c57 (w : World) : Calls Tryd.prog 38 #[.int .u64 57] w fun e w' => e = .returned (.int .i64 58) ∧ w = w' := by
  go_enter Tryd.func38, Tryd.ntmps38
  go_wp2_with (go_at_call 43; refine (Len64_c57 _).mono ?_; rintro e w' ⟨rfl, rfl⟩)
  go_ret
  exact ⟨rfl, rfl⟩
set_option maxRecDepth 100000 in
theorem Div64_c57 (w : World) : Calls Tryd.prog 27 #[.int .u64 1, .int .u64 0, .int .u64 57] w fun e w' => (∃ q : Int, e = .returned (.tuple #[.int .u64 q, .int .u64 55])) ∧ w = w' := by
  have hb1 : bits .or .u64 288230376151711744 0 = 288230376151711744 := by decide +kernel
  have hb2 : bits .and .u64 16429131440647569408 4294967295 = 0 := by decide +kernel
  have hb3 : bits .and .u64 0 4294967295 = 0 := by decide +kernel
  go_enter Tryd.func27, Tryd.ntmps27
  go_wp2_with (go_at_call 38; refine (Lead_c57 _).mono ?_; rintro e w' ⟨rfl, rfl⟩)
  go_loop [15, 16] (fun a b => a = .int .u64 75350303 ∧ b = .int .u64 1677721600) (fun _ _ => 0)
  case atStart => exact ⟨congrArg (Value.int .u64) (by decide +kernel), congrArg (Value.int .u64) (by decide +kernel)⟩
  case round =>
    obtain ⟨rfl, rfl⟩ := hrel
    go_wp2
    go_loop [18, 16] (fun a b => a = .int .u64 1883757585 ∧ b = .int .u64 3690987520) (fun _ _ => 0)
    case atStart => exact ⟨congrArg (Value.int .u64) (by decide +kernel), congrArg (Value.int .u64) (by decide +kernel)⟩
    case round =>
      obtain ⟨rfl, rfl⟩ := hrel
      go_wp2
      go_ret2
      exact ⟨⟨323627089012448273, ret2_u64 (by decide +kernel) (by decide +kernel)⟩, rfl⟩
theorem Rem64_c57 (w : World) : Calls Tryd.prog 23 #[.int .u64 1, .int .u64 0, .int .u64 57] w fun e w' => e = .returned (.int .u64 55) ∧ w = w' := by
  go_enter Tryd.func23, Tryd.ntmps23
  go_wp2_with (go_at_call 27; refine (Div64_c57 _).mono ?_; rintro e w' ⟨⟨q, rfl⟩, rfl⟩)
  go_ret
  exact ⟨rfl, rfl⟩
set_option maxRecDepth 100000 in
theorem Len64_c58 (w : World) : Calls Tryd.prog 43 #[.int .u64 58] w fun e w' => e = .returned (.int .i64 6) ∧ w = w' := by
  go_enter Tryd.func43, Tryd.ntmps43
  go_wp2
  go_ret
  refine ⟨?_, rfl⟩
  exact congrArg (fun x => Ending.returned (.int .i64 x)) (by decide +kernel)
theorem Lead_c58 (w : World) : Calls Tryd.prog 38 #[.int .u64 58] w fun e w' => e = .returned (.int .i64 58) ∧ w = w' := by
  go_enter Tryd.func38, Tryd.ntmps38
  go_wp2_with (go_at_call 43; refine (Len64_c58 _).mono ?_; rintro e w' ⟨rfl, rfl⟩)
  go_ret
  exact ⟨rfl, rfl⟩
set_option maxRecDepth 100000 in
theorem Div64_c58 (w : World) : Calls Tryd.prog 27 #[.int .u64 1, .int .u64 0, .int .u64 58] w fun e w' => (∃ q : Int, e = .returned (.tuple #[.int .u64 q, .int .u64 24])) ∧ w = w' := by
  have hb1 : bits .or .u64 288230376151711744 0 = 288230376151711744 := by decide +kernel
  have hb2 : bits .and .u64 16717361816799281152 4294967295 = 0 := by decide +kernel
  have hb3 : bits .and .u64 0 4294967295 = 0 := by decide +kernel
  go_enter Tryd.func27, Tryd.ntmps27
  go_wp2_with (go_at_call 38; refine (Lead_c58 _).mono ?_; rintro e w' ⟨rfl, rfl⟩)
  go_loop [15, 16] (fun a b => a = .int .u64 74051160 ∧ b = .int .u64 1073741824) (fun _ _ => 0)
  case atStart => exact ⟨congrArg (Value.int .u64) (by decide +kernel), congrArg (Value.int .u64) (by decide +kernel)⟩
  case round =>
    obtain ⟨rfl, rfl⟩ := hrel
    go_wp2
    go_loop [18, 16] (fun a b => a = .int .u64 1184818564 ∧ b = .int .u64 1610612736) (fun _ _ => 0)
    case atStart => exact ⟨congrArg (Value.int .u64) (by decide +kernel), congrArg (Value.int .u64) (by decide +kernel)⟩
    case round =>
      obtain ⟨rfl, rfl⟩ := hrel
      go_wp2
      go_ret2
      exact ⟨⟨318047311615681924, ret2_u64 (by decide +kernel) (by decide +kernel)⟩, rfl⟩
theorem Rem64_c58 (w : World) : Calls Tryd.prog 23 #[.int .u64 1, .int .u64 0, .int .u64 58] w fun e w' => e = .returned (.int .u64 24) ∧ w = w' := by
  go_enter Tryd.func23, Tryd.ntmps23
  go_wp2_with (go_at_call 27; refine (Div64_c58 _).mono ?_; rintro e w' ⟨⟨q, rfl⟩, rfl⟩)
  go_ret
  exact ⟨rfl, rfl⟩
set_option maxRecDepth 100000 in
theorem Len64_c59 (w : World) : Calls Tryd.prog 43 #[.int .u64 59] w fun e w' => e = .returned (.int .i64 6) ∧ w = w' := by
  go_enter Tryd.func43, Tryd.ntmps43
  go_wp2
  go_ret
  refine ⟨?_, rfl⟩
  exact congrArg (fun x => Ending.returned (.int .i64 x)) (by decide +kernel)
theorem Lead_c59 (w : World) : Calls Tryd.prog 38 #[.int .u64 59] w fun e w' => e = .returned (.int .i64 58) ∧ w = w' := by
  go_enter Tryd.func38, Tryd.ntmps38
  go_wp2_with (go_at_call 43; refine (Len64_c59 _).mono ?_; rintro e w' ⟨rfl, rfl⟩)
  go_ret
  exact ⟨rfl, rfl⟩
set_option maxRecDepth 100000 in
theorem Div64_c59 (w : World) : Calls Tryd.prog 27 #[.int .u64 1, .int .u64 0, .int .u64 59] w fun e w' => (∃ q : Int, e = .returned (.tuple #[.int .u64 q, .int .u64 5])) ∧ w = w' := by
  have hb1 : bits .or .u64 288230376151711744 0 = 288230376151711744 := by decide +kernel
  have hb2 : bits .and .u64 17005592192950992896 4294967295 = 0 := by decide +kernel
  have hb3 : bits .and .u64 0 4294967295 = 0 := by decide +kernel
  go_enter Tryd.func27, Tryd.ntmps27
  go_wp2_with (go_at_call 38; refine (Lead_c59 _).mono ?_; rintro e w' ⟨rfl, rfl⟩)
  go_loop [15, 16] (fun a b => a = .int .u64 72796055 ∧ b = .int .u64 3422552064) (fun _ _ => 0)
  case atStart => exact ⟨congrArg (Value.int .u64) (by decide +kernel), congrArg (Value.int .u64) (by decide +kernel)⟩
  case round =>
    obtain ⟨rfl, rfl⟩ := hrel
    go_wp2
    go_loop [18, 16] (fun a b => a = .int .u64 3712598849 ∧ b = .int .u64 335544320) (fun _ _ => 0)
    case atStart => exact ⟨congrArg (Value.int .u64) (by decide +kernel), congrArg (Value.int .u64) (by decide +kernel)⟩
    case round =>
      obtain ⟨rfl, rfl⟩ := hrel
      go_wp2
      go_ret2
      exact ⟨⟨312656679215416129, ret2_u64 (by decide +kernel) (by decide +kernel)⟩, rfl⟩
theorem Rem64_c59 (w : World) : Calls Tryd.prog 23 #[.int .u64 1, .int .u64 0, .int .u64 59] w fun e w' => e = .returned (.int .u64 5) ∧ w = w' := by
  go_enter Tryd.func23, Tryd.ntmps23
  go_wp2_with (go_at_call 27; refine (Div64_c59 _).mono ?_; rintro e w' ⟨⟨q, rfl⟩, rfl⟩)
  go_ret
  exact ⟨rfl, rfl⟩
set_option maxRecDepth 100000 in
theorem Len64_c60 (w : World) : Calls Tryd.prog 43 #[.int .u64 60] w fun e w' => e = .returned (.int .i64 6) ∧ w = w' := by
  go_enter Tryd.func43, Tryd.ntmps43
  go_wp2
  go_ret
  refine ⟨?_, rfl⟩
  exact congrArg (fun x => Ending.returned (.int .i64 x)) (by decide +kernel)
theorem Lead_c60 (w : World) : Calls Tryd.prog 38 #[.int .u64 60] w fun e w' => e = .returned (.int .i64 58) ∧ w = w' := by
  go_enter Tryd.func38, Tryd.ntmps38
  go_wp2_with (go_at_call 43; refine (Len64_c60 _).mono ?_; rintro e w' ⟨rfl, rfl⟩)
  go_ret
  exact ⟨rfl, rfl⟩
set_option maxRecDepth 100000 in
theorem Div64_c60 (w : World) : Calls Tryd.prog 27 #[.int .u64 1, .int .u64 0, .int .u64 60] w fun e w' => (∃ q : Int, e = .returned (.tuple #[.int .u64 q, .int .u64 16])) ∧ w = w' := by
  have hb1 : bits .or .u64 288230376151711744 0 = 288230376151711744 := by decide +kernel
  have hb2 : bits .and .u64 17293822569102704640 4294967295 = 0 := by decide +kernel
  have hb3 : bits .and .u64 0 4294967295 = 0 := by decide +kernel
  go_enter Tryd.func27, Tryd.ntmps27
  go_wp2_with (go_at_call 38; refine (Lead_c60 _).mono ?_; rintro e w' ⟨rfl, rfl⟩)
  go_loop [15, 16] (fun a b => a = .int .u64 71582788 ∧ b = .int .u64 1073741824) (fun _ _ => 0)
  case atStart => exact ⟨congrArg (Value.int .u64) (by decide +kernel), congrArg (Value.int .u64) (by decide +kernel)⟩
  case round =>
    obtain ⟨rfl, rfl⟩ := hrel
    go_wp2
    go_loop [18, 16] (fun a b => a = .int .u64 1145324612 ∧ b = .int .u64 1073741824) (fun _ _ => 0)
    case atStart => exact ⟨congrArg (Value.int .u64) (by decide +kernel), congrArg (Value.int .u64) (by decide +kernel)⟩
    case round =>
      obtain ⟨rfl, rfl⟩ := hrel
      go_wp2
      go_ret2
      exact ⟨⟨307445734561825860, ret2_u64 (by decide +kernel) (by decide +kernel)⟩, rfl⟩
theorem Rem64_c60 (w : World) : Calls Tryd.prog 23 #[.int .u64 1, .int .u64 0, .int .u64 60] w fun e w' => e = .returned (.int .u64 16) ∧ w = w' := by
  go_enter Tryd.func23, Tryd.ntmps23
  go_wp2_with (go_at_call 27; refine (Div64_c60 _).mono ?_; rintro e w' ⟨⟨q, rfl⟩, rfl⟩)
  go_ret
  exact ⟨rfl, rfl⟩
/-- 2^64 modulo a small number. -/
theorem Rem64_small (n : Nat) (h1 : 2 ≤ n) (h2 : n ≤ 60) (w : World) : Calls Tryd.prog 23 #[.int .u64 1, .int .u64 0, .int .u64 (n : Int)] w fun e w' => e = .returned (.int .u64 ((18446744073709551616 % n : Nat) : Int)) ∧ w = w' := by
  have h : n = 2 ∨ n = 3 ∨ n = 4 ∨ n = 5 ∨ n = 6 ∨ n = 7 ∨ n = 8 ∨ n = 9 ∨ n = 10 ∨ n = 11 ∨ n = 12 ∨ n = 13 ∨ n = 14 ∨ n = 15 ∨ n = 16 ∨ n = 17 ∨ n = 18 ∨ n = 19 ∨ n = 20 ∨ n = 21 ∨ n = 22 ∨ n = 23 ∨ n = 24 ∨ n = 25 ∨ n = 26 ∨ n = 27 ∨ n = 28 ∨ n = 29 ∨ n = 30 ∨ n = 31 ∨ n = 32 ∨ n = 33 ∨ n = 34 ∨ n = 35 ∨ n = 36 ∨ n = 37 ∨ n = 38 ∨ n = 39 ∨ n = 40 ∨ n = 41 ∨ n = 42 ∨ n = 43 ∨ n = 44 ∨ n = 45 ∨ n = 46 ∨ n = 47 ∨ n = 48 ∨ n = 49 ∨ n = 50 ∨ n = 51 ∨ n = 52 ∨ n = 53 ∨ n = 54 ∨ n = 55 ∨ n = 56 ∨ n = 57 ∨ n = 58 ∨ n = 59 ∨ n = 60 := by omega
  rcases h with rfl | rfl | rfl | rfl | rfl | rfl | rfl | rfl | rfl | rfl | rfl | rfl | rfl | rfl | rfl | rfl | rfl | rfl | rfl | rfl | rfl | rfl | rfl | rfl | rfl | rfl | rfl | rfl | rfl | rfl | rfl | rfl | rfl | rfl | rfl | rfl | rfl | rfl | rfl | rfl | rfl | rfl | rfl | rfl | rfl | rfl | rfl | rfl | rfl | rfl | rfl | rfl | rfl | rfl | rfl | rfl | rfl | rfl | rfl
  · exact Rem64_c2 w
  · exact Rem64_c3 w
  · exact Rem64_c4 w
  · exact Rem64_c5 w
  · exact Rem64_c6 w
  · exact Rem64_c7 w
  · exact Rem64_c8 w
  · exact Rem64_c9 w
  · exact Rem64_c10 w
  · exact Rem64_c11 w
  · exact Rem64_c12 w
  · exact Rem64_c13 w
  · exact Rem64_c14 w
  · exact Rem64_c15 w
  · exact Rem64_c16 w
  · exact Rem64_c17 w
  · exact Rem64_c18 w
  · exact Rem64_c19 w
  · exact Rem64_c20 w
  · exact Rem64_c21 w
  · exact Rem64_c22 w
  · exact Rem64_c23 w
  · exact Rem64_c24 w
  · exact Rem64_c25 w
  · exact Rem64_c26 w
  · exact Rem64_c27 w
  · exact Rem64_c28 w
  · exact Rem64_c29 w
  · exact Rem64_c30 w
  · exact Rem64_c31 w
  · exact Rem64_c32 w
  · exact Rem64_c33 w
  · exact Rem64_c34 w
  · exact Rem64_c35 w
  · exact Rem64_c36 w
  · exact Rem64_c37 w
  · exact Rem64_c38 w
  · exact Rem64_c39 w
  · exact Rem64_c40 w
  · exact Rem64_c41 w
  · exact Rem64_c42 w
  · exact Rem64_c43 w
  · exact Rem64_c44 w
  · exact Rem64_c45 w
  · exact Rem64_c46 w
  · exact Rem64_c47 w
  · exact Rem64_c48 w
  · exact Rem64_c49 w
  · exact Rem64_c50 w
  · exact Rem64_c51 w
  · exact Rem64_c52 w
  · exact Rem64_c53 w
  · exact Rem64_c54 w
  · exact Rem64_c55 w
  · exact Rem64_c56 w
  · exact Rem64_c57 w
  · exact Rem64_c58 w
  · exact Rem64_c59 w
  · exact Rem64_c60 w
end Go.Proofs.YtmbgcjfmfkddpaaDoor
