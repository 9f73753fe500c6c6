/- Facts on the program's types, closed; make of bytes. -/
import Derived.Test.YtpcmnphohneddaaGreatDoorRows
import Derived.Test.YtpcmnphohneddaaGreatDoorBase
namespace Go.Proofs.YtpcmnphohneddaaGreatDoor
open Go.RowKit

theorem info_u8 : (Tryz.prog.info? 5).map (fun i => (i.zero, i.size, i.bytes)) = some (some (.int .u8 0), 1, 1) := by kernel_rfl

theorem madeCells_one (z : Value) (n : Nat) : madeCells #[z] n = Array.replicate n z := by
  apply Array.ext
  · simp [madeCells]
  · intro i h1 h2
    simp [madeCells, Nat.mod_one]

theorem mk_bytes (n : Int) (h0 : 0 ≤ n) (h1 : n ≤ 140737488355328) (W : World) :
    (Instr.makeSlice 24 (.int .i64 n) (.int .i64 n)).run Tryz.prog W = .ok (.slice (some ⟨W.heap.size, 0, none⟩) n.toNat n.toNat) (W.alloc (.cells (Array.replicate n.toNat (.int .u8 0)) 5)) := by
  obtain ⟨i, hi, hz, hs, hb⟩ := info_parts info_u8
  have h := run_make (P := Tryz.prog) W 24 5 i (.int .u8 0) Tryz.underlying24 hi hz .i64 .i64 n n h0 (Int.le_refl _) (by rw [hb]; omega) (by omega)
  rw [h, hs, Nat.mul_one]
  show Result.ok _ (W.alloc (.cells (madeCells #[.int .u8 0] n.toNat) _)) = _
  rw [madeCells_one]
end Go.Proofs.YtpcmnphohneddaaGreatDoor
