/- The law AttemptNil: a disk that nobody made has no attempts. Holds for every seqn, n; no condition. -/
import Derived.Test.YthhbdejagglgbaaRows
import Derived.Test.YthhbdejagglgbaaWnil
import Derived.WalkKit
import Derived.ProofKit
import Derived.OpenShut
namespace Go.Proofs.Ythhbdejagglgbaa
open Go.RowKit

set_option maxRecDepth 100000 in
set_option maxHeartbeats 400000 in
theorem attGet_no (p : Option Addr) (i : Int) (w : World) (hp : NoDisk w p) :
    Calls Try.prog 7 #[.pointer p, .int .i64 i] w fun e w' => e = .returned (.tuple #[.int .i64 0, .int .i64 1]) ∧ w = w' := by
  go_enter Try.func7, Try.ntmps7
  go_wp2_with (go_at_call 12; refine (Read_no _ _ _ hp).mono ?_; rintro e w' ⟨rfl, rfl⟩)
  go_ret2
  exact ⟨rfl, rfl⟩

set_option maxRecDepth 100000 in
set_option maxHeartbeats 400000 in
theorem attNext_no (p : Option Addr) (i : Int) (w : World) (hp : NoDisk w p) :
    Calls Try.prog 8 #[.pointer p, .int .i64 i] w fun e w' => e = .returned (.tuple #[.int .i64 0, .int .i64 1]) ∧ w = w' := by
  go_enter Try.func8, Try.ntmps8
  go_wp2_with (first
    | (go_at_call 18; refine (Len_no _ _ hp).mono ?_; rintro e w' ⟨rfl, rfl⟩)
    | (go_at_call 7; refine (attGet_no _ _ _ hp).mono ?_; rintro e w' ⟨rfl, rfl⟩))
  go_ret2
  exact ⟨rfl, rfl⟩

set_option maxRecDepth 100000 in
set_option maxHeartbeats 400000 in
theorem attPut_no (p : Option Addr) (i n : Int) (w : World) (hp : NoDisk w p) :
    Calls Try.prog 9 #[.pointer p, .int .i64 i, .int .i64 n] w fun e w' => e = .returned (.int .i64 1) ∧ w = w' := by
  go_enter Try.func9, Try.ntmps9
  go_wp2_with (go_at_call 18; refine (Len_no _ _ hp).mono ?_; rintro e w' ⟨rfl, rfl⟩)
  go_ret
  exact ⟨rfl, rfl⟩

set_option maxRecDepth 100000 in
set_option maxHeartbeats 400000 in
theorem attNil_walk (a0 a1 : Int) (w : World) :
    Calls Try.prog 3 #[.int .i64 a0, .int .i64 a1] w fun e w' => e = .returned (.bool true) ∧ Grown w w' := by
  go_enter Try.func3, Try.ntmps3
  have hp0 : ∀ W, NoDisk W none := fun _ => trivial
  go_wp2
  refine wp_loop_rounds 3 ?_
  rw [rounds_succ]
  go_wp2_with (first
    | (go_at_call 7; refine (attGet_no _ _ _ (hp0 _)).mono ?_; rintro e w' ⟨rfl, rfl⟩)
    | (go_at_call 8; refine (attNext_no _ _ _ (hp0 _)).mono ?_; rintro e w' ⟨rfl, rfl⟩)
    | (go_at_call 9; refine (attPut_no _ _ _ _ (hp0 _)).mono ?_; rintro e w' ⟨rfl, rfl⟩))
  have hp1 : NoDisk ((w.alloc (.cells #[.bool false, .slice none 0 0, .map none, .int .i64 0, .slice none 0 0] 27)).alloc
      (.cells #[.pointer none, .pointer (some ⟨w.heap.size, 0, none⟩)] 22)) (some ⟨w.heap.size, 0, none⟩) := ⟨rfl, by go_simp⟩
  rw [rounds_succ]
  go_wp2_with (first
    | (go_at_call 7; refine (attGet_no _ _ _ hp1).mono ?_; rintro e w' ⟨rfl, rfl⟩)
    | (go_at_call 8; refine (attNext_no _ _ _ hp1).mono ?_; rintro e w' ⟨rfl, rfl⟩)
    | (go_at_call 9; refine (attPut_no _ _ _ _ hp1).mono ?_; rintro e w' ⟨rfl, rfl⟩))
  rw [rounds_succ]
  go_wp2
  go_ret
  exact ⟨rfl, by repeat (first | exact Grown.refl _ | apply Grown.drew | apply Grown.alloc)⟩
end Go.Proofs.Ythhbdejagglgbaa
