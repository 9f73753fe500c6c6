/- Walks at a disk that nobody made: none, ready, Len, Read. -/
import Derived.Test.YthhbdejagglgbaaRows
import Derived.WalkKit
import Derived.WalkSpells
import Derived.WalkLawsBesides
namespace Go.Proofs.Ythhbdejagglgbaa
open Go.RowKit

theorem eq_cache (w : World) (r : Option Nat) : (binOp .eql 24 (.map r) (.map none)).run Try.prog w = .ok (.bool r.isNone) w :=
  run_eql_map_nil w _ _ _ r Try.underlying24

/-- a disk that nobody made: nil, or one whose cache is nil -/
def NoDisk (w : World) (p : Option Addr) : Prop := match p with
  | none => True
  | some a => a.spot = none ∧ w.cell? ⟨a.block, a.off + 2, none⟩ = some (.map none)

set_option maxRecDepth 100000 in
set_option maxHeartbeats 400000 in
theorem none_no (p : Option Addr) (w : World) (hp : NoDisk w p) :
    Calls Try.prog 27 #[.pointer p] w fun e w' => e = .returned (.bool true) ∧ w = w' := by
  rcases p with _ | ⟨b, o, s⟩
  · go_enter Try.func27, Try.ntmps27
    go_wp2
    go_ret
    exact ⟨rfl, rfl⟩
  · obtain ⟨rfl, hc⟩ := hp
    have he := eq_cache
    go_enter Try.func27, Try.ntmps27
    go_wp2
    go_ret
    exact ⟨rfl, rfl⟩

set_option maxRecDepth 100000 in
set_option maxHeartbeats 400000 in
theorem ready_no (p : Option Addr) (w : World) (hp : NoDisk w p) :
    Calls Try.prog 22 #[.pointer p] w fun e w' => e = .returned (.int .i64 1) ∧ w = w' := by
  go_enter Try.func22, Try.ntmps22
  go_wp2_with (go_at_call 27; refine (none_no _ _ hp).mono ?_; rintro e w' ⟨rfl, rfl⟩)
  go_ret
  exact ⟨rfl, rfl⟩

set_option maxRecDepth 100000 in
set_option maxHeartbeats 400000 in
theorem Len_no (p : Option Addr) (w : World) (hp : NoDisk w p) :
    Calls Try.prog 18 #[.pointer p] w fun e w' => e = .returned (.int .i64 0) ∧ w = w' := by
  go_enter Try.func18, Try.ntmps18
  go_wp2_with (go_at_call 27; refine (none_no _ _ hp).mono ?_; rintro e w' ⟨rfl, rfl⟩)
  go_ret
  exact ⟨rfl, rfl⟩

set_option maxRecDepth 100000 in
set_option maxHeartbeats 400000 in
theorem Read_no (p : Option Addr) (i : Int) (w : World) (hp : NoDisk w p) :
    Calls Try.prog 12 #[.pointer p, .int .i64 i] w fun e w' => e = .returned (.tuple #[.slice none 0 0, .int .i64 1]) ∧ w = w' := by
  go_enter Try.func12, Try.ntmps12
  go_wp2_with (go_at_call 22; refine (ready_no _ _ hp).mono ?_; rintro e w' ⟨rfl, rfl⟩)
  go_ret2
  exact ⟨rfl, rfl⟩
end Go.Proofs.Ythhbdejagglgbaa
