import Derived.Test.YtmnaleaghfbclaaGreatDoorMgKernelNilA
import Derived.Test.YtmnaleaghfbclaaGreatDoorMgKernelNilD
import Derived.Test.YtmnaleaghfbclaaGreatDoorMgKernelNilE
import Derived.Test.YtmnaleaghfbclaaGreatDoorMgKernelNilI
import Derived.StillTailTactics
import Derived.Laws.BitsAllLaws
namespace Go.Proofs.YtmnaleaghfbclaaGreatDoor
set_option linter.unusedVariables false
set_option linter.unusedSimpArgs false
set_option maxHeartbeats 8000000
section
open Go.RowKit
def wcells (x : Nat) : Array Value := #[.int .u8 ((x : Int) / 16777216), .int .u8 ((x : Int) / 65536 % 256), .int .u8 ((x : Int) / 256 % 256), .int .u8 ((x : Int) % 256)]
theorem rd_word32 (w : World) (x : Nat) (hx : x < 4294967296) : Rd (w.alloc (.cells (wcells x) 5)) (some ⟨w.heap.size, 0, none⟩) (word32 x) := by
 intro i y hy
 refine ⟨_, _, rfl, ?_⟩
 have hi : i = 0 ∨ i = 1 ∨ i = 2 ∨ i = 3 := by have := (List.getElem?_eq_some_iff.1 hy).1; simp [word32] at this; omega
 rw [Nat.zero_add]
 refine row_cell (heap_alloc_new _ _) ?_
 rcases hi with rfl | rfl | rfl | rfl
 all_goals
  simp [word32] at hy
  subst hy
  simp only [wcells, UInt8.toNat_ofNat']
  first
   | (show some (Value.int .u8 ((x : Int) / 16777216)) = _; congr 2; omega)
   | (show some (Value.int .u8 ((x : Int) / 65536 % 256)) = _; congr 2)
   | (show some (Value.int .u8 ((x : Int) / 256 % 256)) = _; congr 2)
   | (show some (Value.int .u8 ((x : Int) % 256)) = _; congr 2)
set_option maxRecDepth 100000 in
theorem Store32_yes (A : Option Addr) (l : List UInt8) (c a x : Nat) (w : World) (hx : x < 4294967296) (hr : Rd w A l) (hc : l.length ≤ c) (hcm : c ≤ maxLen) (ht : there l a 4 = true) :
  Calls Tryz.prog 269 #[.slice A l.length c, .int .i64 a, .int .u32 x] w fun e w' => ∃ A2 c2, e = .returned (.tuple #[.slice A2 l.length c2, .int .i64 0]) ∧ l.length ≤ c2 ∧ c2 ≤ maxLen ∧ Own w.heap.size w' A2 (put l a (word32 x)) ∧ Chg Non w w' := by
 have HW := Lib.hid (Write_yes A l c a (some ⟨w.heap.size, 0, none⟩) (word32 x) 4 (w.alloc (.cells (wcells x) 5)) (hr.non ((Chg.refl Non w).alloc _)) (rd_word32 w x hx) hc hcm (by simp [word32]) ht)
 clear hr ht
 go_enter Tryz.func269, Tryz.ntmps269
 go_wp2_with fail
 refine HW.out.mono ?_
 rintro e w1 ⟨A2, c2, rfl, q1, q2, q3, q4⟩
 have Q3 := Lib.hid (q3.mono (show w.heap.size ≤ _ by simp))
 have Q4 := Lib.hid (((Chg.refl Non w).alloc _).then_non q4)
 clear q3 q4
 go_wp2_with fail
 go_ret2
 exact ⟨A2, c2, rfl, q1, q2, Q3.out, Q4.out⟩
set_option maxRecDepth 100000 in
theorem Store32_no (A : Option Addr) (l : List UInt8) (c a x : Nat) (w : World) (hx : x < 4294967296) (ha : (a : Int) ≤ 4294967295 * 3) (ht : there l a 4 = false) :
  Calls Tryz.prog 269 #[.slice A l.length c, .int .i64 a, .int .u32 x] w fun e w' => ∃ er : Int, (er == 0) = false ∧ e = .returned (.tuple #[.slice none 0 0, .int .i64 er]) ∧ Chg Non w w' := by
 have HW := Lib.hid (fun B cy W => Write_no A l c a B 4 cy W ha (by omega) ht)
 clear ht
 go_enter Tryz.func269, Tryz.ntmps269
 go_wp2_with fail
 refine (HW.out _ _ _).mono ?_
 rintro e w1 ⟨er, he, rfl, q4⟩
 have Q4 := Lib.hid (((Chg.refl Non w).alloc _).then_non q4)
 clear q4
 go_wp2_with fail
 go_ret2
 exact ⟨er, he, rfl, Q4.out⟩
end
section
open Go.RowKit
set_option maxRecDepth 100000 in
theorem set_ok (b : Nat) (p : Pt) (m : Value) (op a b2 c n : Nat) (w : World) (hp : PartB w b p m) (ha : a < 8) (hn : n < 65536) :
  Calls Tryz.prog 241 #[.pointer (some ⟨b, 0, none⟩), .agg #[.int .u8 op, .int .u8 a, .int .u8 b2, .int .u8 c, .int .i64 n]] w fun e w' => e = .returned (.bool true) ∧ PartB w' b (p.set a (n)) m ∧ Chg (fun k => k = b) w w' := by
 have hai : (a : Int) < 8 := by omega
 have hlt0 := hp.lt
 have hg : Chg Non w (w.alloc (.cells #[.int .u8 op, .int .u8 a, .int .u8 b2, .int .u8 c, .int .i64 n] 143)).drew := ((Chg.refl Non w).alloc _).drew
 have hp2 := hp.non hg
 obtain ⟨⟨z, c0, c1, c2, c3, c4⟩, _⟩ := (Blk5.mk (blockN ((Chg.refl Non _).drew) (heap_alloc_new w (.cells #[.int .u8 op, .int .u8 a, .int .u8 b2, .int .u8 c, .int .i64 n] 143)))).all
 clear hp
 go_enter Tryz.func241, Tryz.ntmps241
 go_wp2_with fail
 refine wp_region_still_tail 9 (by kernel_rfl) (by kernel_rfl) ?_
 simp only [List.take_succ_cons, List.take_zero, List.drop_succ_cons, List.drop_zero]
 change wpStill _ _ (w.alloc (.cells #[.int .u8 op, .int .u8 a, .int .u8 b2, .int .u8 c, .int .i64 n] 143)).drew (fun a' => wpList _ _ _ _ a' (w.alloc (.cells #[.int .u8 op, .int .u8 a, .int .u8 b2, .int .u8 c, .int .i64 n] 143)).drew) _ _
 generalize (w.alloc (.cells #[.int .u8 op, .int .u8 a, .int .u8 b2, .int .u8 c, .int .i64 n] 143)).drew = w2 at hg hp2 z c0 c1 c2 c3 c4 ⊢
 have HP := Lib.hid hp2
 have HG := Lib.hid hg
 have hlt := hp2.lt
 have hf := hp2.frozen (3 + a)
 have hca := hp2.reg a ha
 clear hp2 hg
 repeat still_step
 refine wpStill_nil ?_
 go_wp2_with fail
 go_ret
 exact ⟨rfl, HP.out.setReg a n ha, HG.out.non_then (setAt w2 b (3 + a) _)⟩
set_option maxRecDepth 100000 in
theorem high_ok (b : Nat) (p : Pt) (m : Value) (op a b2 c n : Nat) (w : World) (hp : PartB w b p m) (ha : a < 8) (hn : n < 65536) (r : Nat) (hr : p.g a = r) (hb : r < 4294967296) :
  Calls Tryz.prog 242 #[.pointer (some ⟨b, 0, none⟩), .agg #[.int .u8 op, .int .u8 a, .int .u8 b2, .int .u8 c, .int .i64 n]] w fun e w' => e = .returned (.bool true) ∧ PartB w' b (p.set a ((r * 65536 % 4294967296) ||| n)) m ∧ Chg (fun k => k = b) w w' := by
 have hai : (a : Int) < 8 := by omega
 have hlt0 := hp.lt
 have hg : Chg Non w (w.alloc (.cells #[.int .u8 op, .int .u8 a, .int .u8 b2, .int .u8 c, .int .i64 n] 143)).drew := ((Chg.refl Non w).alloc _).drew
 have hp2 := hp.non hg
 obtain ⟨⟨z, c0, c1, c2, c3, c4⟩, _⟩ := (Blk5.mk (blockN ((Chg.refl Non _).drew) (heap_alloc_new w (.cells #[.int .u8 op, .int .u8 a, .int .u8 b2, .int .u8 c, .int .i64 n] 143)))).all
 clear hp
 go_enter Tryz.func242, Tryz.ntmps242
 go_wp2_with fail
 refine wp_region_still_tail 18 (by kernel_rfl) (by kernel_rfl) ?_
 simp only [List.take_succ_cons, List.take_zero, List.drop_succ_cons, List.drop_zero]
 change wpStill _ _ (w.alloc (.cells #[.int .u8 op, .int .u8 a, .int .u8 b2, .int .u8 c, .int .i64 n] 143)).drew (fun a' => wpList _ _ _ _ a' (w.alloc (.cells #[.int .u8 op, .int .u8 a, .int .u8 b2, .int .u8 c, .int .i64 n] 143)).drew) _ _
 generalize (w.alloc (.cells #[.int .u8 op, .int .u8 a, .int .u8 b2, .int .u8 c, .int .i64 n] 143)).drew = w2 at hg hp2 z c0 c1 c2 c3 c4 ⊢
 have HP := Lib.hid hp2
 have HG := Lib.hid hg
 have hlt := hp2.lt
 have hf := hp2.frozen (3 + a)
 have hca := hp2.reg a ha
 rw [hr] at hca
 have hor : bits .or .u32 ((r : Int) * 65536 % 4294967296) (n : Int) = (((r * 65536 % 4294967296) ||| n : Nat) : Int) := by have := u32_or_nat (r * 65536 % 4294967296) n (by omega) (by omega); simpa using this
 clear hp2 hg
 repeat still_step
 refine wpStill_nil ?_
 go_wp2_with fail
 go_ret
 exact ⟨rfl, by rw [hor]; exact HP.out.setReg a _ ha, HG.out.non_then (setAt w2 b (3 + a) _)⟩
set_option maxRecDepth 100000 in
theorem move_ok (b : Nat) (p : Pt) (m : Value) (op a b2 c n : Nat) (w : World) (hp : PartB w b p m) (ha : a < 8) (hb2 : b2 < 8) :
  Calls Tryz.prog 247 #[.pointer (some ⟨b, 0, none⟩), .agg #[.int .u8 op, .int .u8 a, .int .u8 b2, .int .u8 c, .int .i64 n]] w fun e w' => e = .returned (.bool true) ∧ PartB w' b (p.set a (p.g b2)) m ∧ Chg (fun k => k = b) w w' := by
 have hai : (a : Int) < 8 := by omega
 have hlt0 := hp.lt
 have hg : Chg Non w (w.alloc (.cells #[.int .u8 op, .int .u8 a, .int .u8 b2, .int .u8 c, .int .i64 n] 143)).drew := ((Chg.refl Non w).alloc _).drew
 have hp2 := hp.non hg
 obtain ⟨⟨z, c0, c1, c2, c3, c4⟩, _⟩ := (Blk5.mk (blockN ((Chg.refl Non _).drew) (heap_alloc_new w (.cells #[.int .u8 op, .int .u8 a, .int .u8 b2, .int .u8 c, .int .i64 n] 143)))).all
 clear hp
 go_enter Tryz.func247, Tryz.ntmps247
 go_wp2_with fail
 refine wp_region_still_tail 13 (by kernel_rfl) (by kernel_rfl) ?_
 simp only [List.take_succ_cons, List.take_zero, List.drop_succ_cons, List.drop_zero]
 change wpStill _ _ (w.alloc (.cells #[.int .u8 op, .int .u8 a, .int .u8 b2, .int .u8 c, .int .i64 n] 143)).drew (fun a' => wpList _ _ _ _ a' (w.alloc (.cells #[.int .u8 op, .int .u8 a, .int .u8 b2, .int .u8 c, .int .i64 n] 143)).drew) _ _
 generalize (w.alloc (.cells #[.int .u8 op, .int .u8 a, .int .u8 b2, .int .u8 c, .int .i64 n] 143)).drew = w2 at hg hp2 z c0 c1 c2 c3 c4 ⊢
 have HP := Lib.hid hp2
 have HG := Lib.hid hg
 have hlt := hp2.lt
 have hf := hp2.frozen (3 + a)
 have hca := hp2.reg a ha
 have hbi : (b2 : Int) < 8 := by omega
 have hcb := hp2.reg b2 hb2
 clear hp2 hg
 repeat still_step
 refine wpStill_nil ?_
 go_wp2_with fail
 go_ret
 exact ⟨rfl, HP.out.setReg a _ ha, HG.out.non_then (setAt w2 b (3 + a) _)⟩
set_option maxRecDepth 100000 in
theorem address_ok (b : Nat) (p : Pt) (m : Value) (op a b2 c n : Nat) (w : World) (hp : PartB w b p m) (hb2 : b2 < 8) (r : Nat) (hr : p.g b2 = r) (hn : n < 65536) (hb : r < 4294967296) :
  Calls Tryz.prog 266 #[.pointer (some ⟨b, 0, none⟩), .agg #[.int .u8 op, .int .u8 a, .int .u8 b2, .int .u8 c, .int .i64 n]] w fun e w' => e = .returned (.int .i64 ((r + n : Nat) : Int)) ∧ Chg Non w w' := by
 have hbi : (b2 : Int) < 8 := by omega
 have hg : Chg Non w (w.alloc (.cells #[.int .u8 op, .int .u8 a, .int .u8 b2, .int .u8 c, .int .i64 n] 143)).drew := ((Chg.refl Non w).alloc _).drew
 have hp2 := hp.non hg
 have hc := hp2.reg b2 hb2
 rw [hr] at hc
 obtain ⟨⟨z, c0, c1, c2, c3, c4⟩, _⟩ := (Blk5.mk (blockN ((Chg.refl Non _).drew) (heap_alloc_new w (.cells #[.int .u8 op, .int .u8 a, .int .u8 b2, .int .u8 c, .int .i64 n] 143)))).all
 have HG := Lib.hid hg
 clear hp hp2 hg
 go_enter Tryz.func266, Tryz.ntmps266
 go_wp2_with fail
 refine wp_region_held_drew (S := fun W => W.cell? ⟨b, 3 + b2, none⟩ = some (.int .u32 r) ∧ W.cell? ⟨w.heap.size, 2, none⟩ = some (.int .u8 b2) ∧ W.cell? ⟨w.heap.size, 4, none⟩ = some (.int .i64 n)) (by kernel_rfl) ⟨hc, c2, c4⟩ (fun hHeld => ?_)
 refine hp 0 5 (.pointer (some ⟨b, 0, none⟩)) rfl hHeld ?_ (he := (fun W hW => by obtain ⟨e1, e2, e3⟩ := hW; go_simp))
 refine hp 1 6 (.pointer (some ⟨w.heap.size, 2, none⟩)) rfl hHeld ?_ (he := (fun W hW => by obtain ⟨e1, e2, e3⟩ := hW; go_simp))
 refine hp 2 7 (.int .u8 b2) rfl hHeld ?_ (he := (fun W hW => by obtain ⟨e1, e2, e3⟩ := hW; go_simp))
 refine hp 3 8 (.pointer (some ⟨b, 0, none⟩)) rfl hHeld ?_ (he := (fun W hW => by obtain ⟨e1, e2, e3⟩ := hW; go_simp))
 refine hp 4 9 (.pointer (some ⟨b, 3, none⟩)) rfl hHeld ?_ (he := (fun W hW => by obtain ⟨e1, e2, e3⟩ := hW; go_simp))
 refine hp 5 10 (.pointer (some ⟨b, 3 + b2, none⟩)) rfl hHeld ?_ (he := (fun W hW => by obtain ⟨e1, e2, e3⟩ := hW; go_simp))
 refine hp 6 11 (.int .u32 r) rfl hHeld ?_ (he := (fun W hW => by obtain ⟨e1, e2, e3⟩ := hW; go_simp))
 refine hp 7 12 (.int .i64 r) rfl hHeld ?_ (he := (fun W hW => by obtain ⟨e1, e2, e3⟩ := hW; go_simp; exact Go.IntWalk.i64_in _ (by omega)))
 refine hp 8 13 (.pointer (some ⟨w.heap.size, 4, none⟩)) rfl hHeld ?_ (he := (fun W hW => by obtain ⟨e1, e2, e3⟩ := hW; go_simp))
 refine hp 9 14 (.int .i64 n) rfl hHeld ?_ (he := (fun W hW => by obtain ⟨e1, e2, e3⟩ := hW; go_simp))
 refine hp 10 15 (.int .i64 ((r + n : Nat) : Int)) rfl hHeld ?_ (he := (fun W hW => by obtain ⟨e1, e2, e3⟩ := hW; go_simp; exact Go.IntWalk.i64_in _ (by omega)))
 refine hp 11 4 (.int .i64 ((r + n : Nat) : Int)) rfl hHeld ?_ (he := (fun W hW => by obtain ⟨e1, e2, e3⟩ := hW; go_simp))
 refine wpAnyH_done (by kernel_rfl) ?_ _
 go_wp2_with fail
 go_ret
 exact ⟨rfl, HG.out⟩
end
section
open Go.RowKit
theorem mk2_4 (x y : Nat) : mk2 4 x y = (x + y) % 4294967296 := by unfold mk2; rw [if_pos rfl]
theorem mk2_5 (x y : Nat) : mk2 5 x y = (x + 4294967296 - y) % 4294967296 := by unfold mk2; rw [if_neg (by decide), if_pos rfl]
theorem mk2_6 (x y : Nat) : mk2 6 x y = x * y % 4294967296 := by unfold mk2; rw [if_neg (by decide), if_neg (by decide), if_pos rfl]
theorem mk2_7 (x y : Nat) : mk2 7 x y = x &&& y := by unfold mk2; rw [if_neg (by decide), if_neg (by decide), if_neg (by decide), if_pos rfl]
theorem mk2_8 (x y : Nat) : mk2 8 x y = x ||| y := by unfold mk2; rw [if_neg (by decide), if_neg (by decide), if_neg (by decide), if_neg (by decide), if_pos rfl]
theorem mk2_9 (x y : Nat) : mk2 9 x y = x ^^^ y := by unfold mk2; rw [if_neg (by decide), if_neg (by decide), if_neg (by decide), if_neg (by decide), if_neg (by decide), if_pos rfl]
theorem mk2_10 (x y : Nat) : mk2 10 x y = x * 2 ^ (y % 32) % 4294967296 := by unfold mk2; rw [if_neg (by decide), if_neg (by decide), if_neg (by decide), if_neg (by decide), if_neg (by decide), if_neg (by decide), if_pos rfl]
theorem mk2_11 (x y : Nat) : mk2 11 x y = x / 2 ^ (y % 32) := by unfold mk2; rw [if_neg (by decide), if_neg (by decide), if_neg (by decide), if_neg (by decide), if_neg (by decide), if_neg (by decide), if_neg (by decide), if_pos rfl]
theorem mk2_12 (x y : Nat) : mk2 12 x y = if x < y then 1 else 0 := by unfold mk2; rw [if_neg (by decide), if_neg (by decide), if_neg (by decide), if_neg (by decide), if_neg (by decide), if_neg (by decide), if_neg (by decide), if_neg (by decide), if_pos rfl]
set_option maxRecDepth 100000 in
theorem mk_add (x y : Nat) (w : World) (hx : x < 4294967296) (hy : y < 4294967296) :
  Calls Tryz.prog 248 #[.int .u32 x, .int .u32 y] w fun e w' => e = .returned (.int .u32 ((mk2 4 x y : Nat) : Int)) ∧ w = w' := by
 go_enter Tryz.func248, Tryz.ntmps248
 go_wp2_with fail
 go_ret
 refine ⟨?_, rfl⟩
 show Ending.returned (Value.int .u32 (((x : Int) + y) % 4294967296)) = _
 rw [mk2_4, show ((x : Int) + y) % 4294967296 = (((x + y) % 4294967296 : Nat) : Int) from by omega]
set_option maxRecDepth 100000 in
theorem mk_sub (x y : Nat) (w : World) (hx : x < 4294967296) (hy : y < 4294967296) :
  Calls Tryz.prog 249 #[.int .u32 x, .int .u32 y] w fun e w' => e = .returned (.int .u32 ((mk2 5 x y : Nat) : Int)) ∧ w = w' := by
 go_enter Tryz.func249, Tryz.ntmps249
 go_wp2_with fail
 go_ret
 refine ⟨?_, rfl⟩
 show Ending.returned (Value.int .u32 (((x : Int) - y) % 4294967296)) = _
 rw [mk2_5, show ((x : Int) - y) % 4294967296 = (((x + 4294967296 - y) % 4294967296 : Nat) : Int) from by omega]
set_option maxRecDepth 100000 in
theorem mk_mul (x y : Nat) (w : World) (hx : x < 4294967296) (hy : y < 4294967296) :
  Calls Tryz.prog 250 #[.int .u32 x, .int .u32 y] w fun e w' => e = .returned (.int .u32 ((mk2 6 x y : Nat) : Int)) ∧ w = w' := by
 go_enter Tryz.func250, Tryz.ntmps250
 go_wp2_with fail
 go_ret
 refine ⟨?_, rfl⟩
 show Ending.returned (Value.int .u32 (((x : Int) * y) % 4294967296)) = _
 rw [mk2_6, show ((x : Int) * y) % 4294967296 = ((x * y % 4294967296 : Nat) : Int) from by rw [Int.natCast_emod, Int.natCast_mul]; rfl]
set_option maxRecDepth 100000 in
theorem mk_and (x y : Nat) (w : World) (hx : x < 4294967296) (hy : y < 4294967296) :
  Calls Tryz.prog 251 #[.int .u32 x, .int .u32 y] w fun e w' => e = .returned (.int .u32 ((mk2 7 x y : Nat) : Int)) ∧ w = w' := by
 go_enter Tryz.func251, Tryz.ntmps251
 go_wp2_with fail
 go_ret
 refine ⟨?_, rfl⟩
 show Ending.returned (Value.int .u32 (bits .and .u32 (x : Int) (y : Int))) = _
 rw [mk2_7, show bits .and .u32 (x : Int) (y : Int) = ((x &&& y : Nat) : Int) from u32_and_nat x y hx hy]
set_option maxRecDepth 100000 in
theorem mk_or (x y : Nat) (w : World) (hx : x < 4294967296) (hy : y < 4294967296) :
  Calls Tryz.prog 252 #[.int .u32 x, .int .u32 y] w fun e w' => e = .returned (.int .u32 ((mk2 8 x y : Nat) : Int)) ∧ w = w' := by
 go_enter Tryz.func252, Tryz.ntmps252
 go_wp2_with fail
 go_ret
 refine ⟨?_, rfl⟩
 show Ending.returned (Value.int .u32 (bits .or .u32 (x : Int) (y : Int))) = _
 rw [mk2_8, show bits .or .u32 (x : Int) (y : Int) = ((x ||| y : Nat) : Int) from u32_or_nat x y hx hy]
set_option maxRecDepth 100000 in
theorem mk_xor (x y : Nat) (w : World) (hx : x < 4294967296) (hy : y < 4294967296) :
  Calls Tryz.prog 253 #[.int .u32 x, .int .u32 y] w fun e w' => e = .returned (.int .u32 ((mk2 9 x y : Nat) : Int)) ∧ w = w' := by
 go_enter Tryz.func253, Tryz.ntmps253
 go_wp2_with fail
 go_ret
 refine ⟨?_, rfl⟩
 show Ending.returned (Value.int .u32 (bits .xor .u32 (x : Int) (y : Int))) = _
 rw [mk2_9, show bits .xor .u32 (x : Int) (y : Int) = ((x ^^^ y : Nat) : Int) from u32_xor_nat x y hx hy]
set_option maxRecDepth 100000 in
theorem mk_shl (x y : Nat) (w : World) (hx : x < 4294967296) (hy : y < 4294967296) :
  Calls Tryz.prog 254 #[.int .u32 x, .int .u32 y] w fun e w' => e = .returned (.int .u32 ((mk2 10 x y : Nat) : Int)) ∧ w = w' := by
 go_enter Tryz.func254, Tryz.ntmps254
 go_wp2_with fail
 go_ret
 refine ⟨?_, rfl⟩
 show Ending.returned (Value.int .u32 ((x : Int) * 2 ^ (y % 32) % 4294967296)) = _
 rw [mk2_10, show (x : Int) * 2 ^ (y % 32) % 4294967296 = ((x * 2 ^ (y % 32) % 4294967296 : Nat) : Int) from by rw [Int.natCast_emod, Int.natCast_mul, Int.natCast_pow]; rfl]
set_option maxRecDepth 100000 in
theorem mk_shr (x y : Nat) (w : World) (hx : x < 4294967296) (hy : y < 4294967296) :
  Calls Tryz.prog 255 #[.int .u32 x, .int .u32 y] w fun e w' => e = .returned (.int .u32 ((mk2 11 x y : Nat) : Int)) ∧ w = w' := by
 go_enter Tryz.func255, Tryz.ntmps255
 go_wp2_with fail
 go_ret
 refine ⟨?_, rfl⟩
 show Ending.returned (Value.int .u32 ((x : Int) / 2 ^ (y % 32))) = _
 rw [mk2_11, show (x : Int) / 2 ^ (y % 32) = ((x / 2 ^ (y % 32) : Nat) : Int) from by rw [Int.natCast_ediv, Int.natCast_pow]; rfl]
set_option maxRecDepth 100000 in
theorem mk_less (x y : Nat) (w : World) :
  Calls Tryz.prog 256 #[.int .u32 x, .int .u32 y] w fun e w' => e = .returned (.int .u32 ((mk2 12 x y : Nat) : Int)) ∧ w = w' := by
 by_cases h : x < y
 ·have hb : decide ((x : Int) < (y : Int)) = true := by simp; omega
  rw [show mk2 12 x y = 1 by rw [mk2_12, if_pos h]]
  go_enter Tryz.func256, Tryz.ntmps256
  go_wp2_with fail
  go_ret
  exact ⟨rfl, rfl⟩
 ·have hb : decide ((x : Int) < (y : Int)) = false := by simp; omega
  rw [show mk2 12 x y = 0 by rw [mk2_12, if_neg h]]
  go_enter Tryz.func256, Tryz.ntmps256
  go_wp2_with fail
  go_ret
  exact ⟨rfl, rfl⟩
end
section
open Go.RowKit
theorem num32_go (b : List UInt8) : ∀ x, b.foldl (fun x c => 256 * x + c.toNat) x < (x + 1) * 256 ^ b.length := by
 induction b with
 | nil => intro x; simp
 | cons c r ih =>
  intro x
  have h := ih (256 * x + c.toNat)
  have hc := c.toNat_lt
  rw [List.foldl_cons, List.length_cons, Nat.pow_succ]
  refine Nat.lt_of_lt_of_le h ?_
  rw [Nat.mul_comm (256 ^ r.length) 256, ← Nat.mul_assoc]
  exact Nat.mul_le_mul_right _ (by omega)
theorem num32_lt (b : List UInt8) (h : b.length ≤ 4) : num32 b < 4294967296 := by
 have h1 := num32_go b 0
 have h2 : 256 ^ b.length ≤ 256 ^ 4 := Nat.pow_le_pow_right (by decide) h
 unfold num32
 omega
set_option maxRecDepth 100000 in
theorem loadByte_yes (b : Nat) (p : Pt) (A : Option Addr) (l : List UInt8) (cl : Nat) (op a b2 c n r : Nat) (w : World) (hp : PartB w b p (.slice A l.length cl)) (hr : Rd w A l) (hlc : l.length ≤ cl) (hcm : cl ≤ maxLen) (ha : a < 8) (hb2 : b2 < 8) (hn : n < 65536) (hrg : p.g b2 = r) (hrb : r < 4294967296) (ht : there l (r + n) 1 = true) (x : UInt8) (hx : cut l (r + n) 1 = [x]) :
  Calls Tryz.prog 243 #[.pointer (some ⟨b, 0, none⟩), .agg #[.int .u8 op, .int .u8 a, .int .u8 b2, .int .u8 c, .int .i64 n]] w fun e w' => e = .returned (.bool true) ∧ PartB w' b (p.set a (x.toNat)) (.slice A l.length cl) ∧ Chg (fun k => k = b) w w' := by
 have hai : (a : Int) < 8 := by omega
 have hlt0 := hp.lt
 have HP := Lib.hid hp
 have HP1 : Hid (PartB (w.alloc (.cells #[.int .u8 op, .int .u8 a, .int .u8 b2, .int .u8 c, .int .i64 n] 143)) b p (.slice A l.length cl)) := Lib.hid (hp.non ((Chg.refl Non w).alloc _))
 have HR := Lib.hid (hr.non ((Chg.refl Non w).alloc (.cells #[.int .u8 op, .int .u8 a, .int .u8 b2, .int .u8 c, .int .i64 n] 143)))
 have HX := Lib.hid (heap_alloc_new w (.cells #[.int .u8 op, .int .u8 a, .int .u8 b2, .int .u8 c, .int .i64 n] 143))
 have HT := Lib.hid ht
 clear hp hr ht
 obtain ⟨v, hv⟩ : ∃ v, x.toNat = v := ⟨_, rfl⟩
 have hvb : v < 256 := by rw [← hv]; exact x.toNat_lt
 have HV := Lib.hid hv
 rw [hv]
 have HXx := Lib.hid hx
 clear hv hx
 go_enter Tryz.func243, Tryz.ntmps243
 go_wp2_with fail
 refine wp_region_held_drew (S := fun v => Chg Non (w.alloc (.cells #[.int .u8 op, .int .u8 a, .int .u8 b2, .int .u8 c, .int .i64 n] 143)) v) (by kernel_rfl) ((Chg.refl Non _).drew) (fun hHeld => ?_)
 clear hHeld
 refine hp 0 8 (.pointer (some ⟨b, 0, none⟩)) rfl ((Chg.refl _ _).drew) ?_
 refine hp 1 9 (.pointer (some ⟨b, 0, none⟩)) rfl ((Chg.refl _ _).drew) ?_
 refine hp 2 10 (.pointer (some ⟨b, 13, none⟩)) rfl ((Chg.refl _ _).drew) ?_
 refine hp 3 11 (.slice A l.length cl) rfl ((Chg.refl _ _).drew) ?_ (he := (fun w e => by have hq := (HP1.out.non e).cells.2.2.2.2.2; go_simp))
 refine hp 4 12 (.pointer (some ⟨b, 0, none⟩)) rfl ((Chg.refl _ _).drew) ?_
 refine h_load 5 (some 13) 143 (.tmp 3) w.heap.size 0 #[.int .u8 op, .int .u8 a, .int .u8 b2, .int .u8 c, .int .i64 n] _ rfl (by kernel_rfl) (by kernel_rfl) (by kernel_rfl) (by kernel_rfl) (by kernel_rfl) (fun _ _ _ h => h) (by kernel_rfl) (by kernel_rfl) (fun w h => row_range (blockN h HX.out)) Tryz.underlying143 rfl info_ins ((Chg.refl _ _).drew) ?_
 simp only [Act.put, sA, sB, sC]
 refine h_one 6 (by kernel_rfl) rfl (by kernel_rfl) ?_
 intro K hK
 go_simp
 refine (address_ok b p _ op a b2 c n _ (HP1.out.non ((Chg.refl Non _).drew)) hb2 r hrg hn hrb).mono ?_
 rintro e y1 ⟨rfl, hg1⟩
 have HY1 := Lib.hid (((Chg.refl Non _).drew).then_non hg1)
 clear hg1
 refine hK.out _ _ HY1.out (fun _ => ?_)
 clear hK K
 refine h_one 7 (by kernel_rfl) rfl (by kernel_rfl) ?_
 intro K hK
 go_simp
 have hl := Load_yes A l cl (r + n) x _ (HR.out.non HY1.out) hlc hcm HT.out HXx.out
 rw [HV.out] at hl
 refine hl.mono ?_
 rintro e y2 ⟨rfl, rfl⟩
 refine hK.out _ _ HY1.out (fun _ => ?_)
 clear hK K
 refine hp 8 7 (.tuple #[.int .u8 v, .int .i64 0]) rfl HY1.out ?_
 refine hp 9 16 (.int .u8 v) rfl HY1.out ?_
 refine hp 10 17 (.int .i64 0) rfl HY1.out ?_
 refine hp 11 5 (.int .u8 v) rfl HY1.out ?_
 refine hp 12 6 (.int .i64 0) rfl HY1.out ?_
 refine wpAnyH_done (by kernel_rfl) ?_ _
 have hg : Chg Non (w.alloc (.cells #[.int .u8 op, .int .u8 a, .int .u8 b2, .int .u8 c, .int .i64 n] 143)) y1.drew := HY1.out.drew
 have hp2 := HP1.out.non hg
 obtain ⟨⟨z, c0, c1, c2, c3, c4⟩, _⟩ := (Blk5.mk (blockN hg HX.out)).all
 go_wp2_with fail
 refine wp_region_still_tail 8 (by kernel_rfl) (by kernel_rfl) ?_
 simp only [List.take_succ_cons, List.take_zero, List.drop_succ_cons, List.drop_zero]
 change wpStill _ _ y1.drew (fun a' => wpList _ _ _ _ a' y1.drew) _ _
 generalize y1.drew = w2 at hg hp2 z c0 c1 c2 c3 c4 ⊢
 have HP2 := Lib.hid hp2
 have HG2 := Lib.hid (((Chg.refl Non w).alloc _).then_non hg)
 have hlt := hp2.lt
 have hf := hp2.frozen (3 + a)
 have hca := hp2.reg a ha
 have hwv : IntKind.u32.wrap (v : Int) = v := Go.IntWalk.u32_in _ (by omega)
 clear hp2 hg
 repeat still_step
 refine wpStill_nil ?_
 go_wp2_with fail
 go_ret
 exact ⟨rfl, HP2.out.setReg a v ha, HG2.out.non_then (setAt w2 b (3 + a) _)⟩
set_option maxRecDepth 100000 in
theorem loadByte_no (b : Nat) (p : Pt) (A : Option Addr) (l : List UInt8) (cl : Nat) (op a b2 c n r : Nat) (w : World) (hp : PartB w b p (.slice A l.length cl)) (hr : Rd w A l) (hlc : l.length ≤ cl) (hcm : cl ≤ maxLen) (ha : a < 8) (hb2 : b2 < 8) (hn : n < 65536) (hrg : p.g b2 = r) (hrb : r < 4294967296) (ht : there l (r + n) 1 = false) :
  Calls Tryz.prog 243 #[.pointer (some ⟨b, 0, none⟩), .agg #[.int .u8 op, .int .u8 a, .int .u8 b2, .int .u8 c, .int .i64 n]] w fun e w' => e = .returned (.bool false) ∧ PartB w' b p (.slice A l.length cl) ∧ Chg Non w w' := by
 have hai : (a : Int) < 8 := by omega
 have hlt0 := hp.lt
 have HP := Lib.hid hp
 have HP1 : Hid (PartB (w.alloc (.cells #[.int .u8 op, .int .u8 a, .int .u8 b2, .int .u8 c, .int .i64 n] 143)) b p (.slice A l.length cl)) := Lib.hid (hp.non ((Chg.refl Non w).alloc _))
 have HR := Lib.hid (hr.non ((Chg.refl Non w).alloc (.cells #[.int .u8 op, .int .u8 a, .int .u8 b2, .int .u8 c, .int .i64 n] 143)))
 have HX := Lib.hid (heap_alloc_new w (.cells #[.int .u8 op, .int .u8 a, .int .u8 b2, .int .u8 c, .int .i64 n] 143))
 have HT := Lib.hid ht
 clear hp hr ht
 go_enter Tryz.func243, Tryz.ntmps243
 go_wp2_with fail
 refine wp_region_held_drew (S := fun v => Chg Non (w.alloc (.cells #[.int .u8 op, .int .u8 a, .int .u8 b2, .int .u8 c, .int .i64 n] 143)) v) (by kernel_rfl) ((Chg.refl Non _).drew) (fun hHeld => ?_)
 clear hHeld
 refine hp 0 8 (.pointer (some ⟨b, 0, none⟩)) rfl ((Chg.refl _ _).drew) ?_
 refine hp 1 9 (.pointer (some ⟨b, 0, none⟩)) rfl ((Chg.refl _ _).drew) ?_
 refine hp 2 10 (.pointer (some ⟨b, 13, none⟩)) rfl ((Chg.refl _ _).drew) ?_
 refine hp 3 11 (.slice A l.length cl) rfl ((Chg.refl _ _).drew) ?_ (he := (fun w e => by have hq := (HP1.out.non e).cells.2.2.2.2.2; go_simp))
 refine hp 4 12 (.pointer (some ⟨b, 0, none⟩)) rfl ((Chg.refl _ _).drew) ?_
 refine h_load 5 (some 13) 143 (.tmp 3) w.heap.size 0 #[.int .u8 op, .int .u8 a, .int .u8 b2, .int .u8 c, .int .i64 n] _ rfl (by kernel_rfl) (by kernel_rfl) (by kernel_rfl) (by kernel_rfl) (by kernel_rfl) (fun _ _ _ h => h) (by kernel_rfl) (by kernel_rfl) (fun w h => row_range (blockN h HX.out)) Tryz.underlying143 rfl info_ins ((Chg.refl _ _).drew) ?_
 simp only [Act.put, sA, sB, sC]
 refine h_one 6 (by kernel_rfl) rfl (by kernel_rfl) ?_
 intro K hK
 go_simp
 refine (address_ok b p _ op a b2 c n _ (HP1.out.non ((Chg.refl Non _).drew)) hb2 r hrg hn hrb).mono ?_
 rintro e y1 ⟨rfl, hg1⟩
 have HY1 := Lib.hid (((Chg.refl Non _).drew).then_non hg1)
 clear hg1
 refine hK.out _ _ HY1.out (fun _ => ?_)
 clear hK K
 refine h_one 7 (by kernel_rfl) rfl (by kernel_rfl) ?_
 intro K hK
 go_simp
 refine (Load_no A l cl (r + n) _ (by omega) HT.out).mono ?_
 rintro e y2 ⟨er, her, rfl, rfl⟩
 refine hK.out _ _ HY1.out (fun _ => ?_)
 clear hK K
 refine hp 8 7 (.tuple #[.int .u8 0, .int .i64 er]) rfl HY1.out ?_
 refine hp 9 16 (.int .u8 0) rfl HY1.out ?_
 refine hp 10 17 (.int .i64 er) rfl HY1.out ?_
 refine hp 11 5 (.int .u8 0) rfl HY1.out ?_
 refine hp 12 6 (.int .i64 er) rfl HY1.out ?_
 refine wpAnyH_done (by kernel_rfl) ?_ _
 go_wp2_with fail
 go_ret
 exact ⟨rfl, HP1.out.non HY1.out, ((Chg.refl Non w).alloc _).then_non HY1.out⟩
set_option maxRecDepth 100000 in
theorem loadWord_yes (b : Nat) (p : Pt) (A : Option Addr) (l : List UInt8) (cl : Nat) (op a b2 c n r : Nat) (w : World) (hp : PartB w b p (.slice A l.length cl)) (hr : Rd w A l) (hlc : l.length ≤ cl) (hcm : cl ≤ maxLen) (ha : a < 8) (hb2 : b2 < 8) (hn : n < 65536) (hrg : p.g b2 = r) (hrb : r < 4294967296) (ht : there l (r + n) 4 = true) :
  Calls Tryz.prog 245 #[.pointer (some ⟨b, 0, none⟩), .agg #[.int .u8 op, .int .u8 a, .int .u8 b2, .int .u8 c, .int .i64 n]] w fun e w' => e = .returned (.bool true) ∧ PartB w' b (p.set a (num32 (cut l (r + n) 4))) (.slice A l.length cl) ∧ Chg (fun k => k = b) w w' := by
 have hai : (a : Int) < 8 := by omega
 have hlt0 := hp.lt
 have HP := Lib.hid hp
 have HP1 : Hid (PartB (w.alloc (.cells #[.int .u8 op, .int .u8 a, .int .u8 b2, .int .u8 c, .int .i64 n] 143)) b p (.slice A l.length cl)) := Lib.hid (hp.non ((Chg.refl Non w).alloc _))
 have HR := Lib.hid (hr.non ((Chg.refl Non w).alloc (.cells #[.int .u8 op, .int .u8 a, .int .u8 b2, .int .u8 c, .int .i64 n] 143)))
 have HX := Lib.hid (heap_alloc_new w (.cells #[.int .u8 op, .int .u8 a, .int .u8 b2, .int .u8 c, .int .i64 n] 143))
 have HT := Lib.hid ht
 clear hp hr ht
 obtain ⟨v, hv⟩ : ∃ v, num32 (cut l (r + n) 4) = v := ⟨_, rfl⟩
 rw [hv]
 have HV := Lib.hid hv
 have hvb : v < 4294967296 := by rw [← hv]; exact num32_lt _ (by unfold cut; rw [List.length_take]; omega)
 clear hv
 go_enter Tryz.func245, Tryz.ntmps245
 go_wp2_with fail
 refine wp_region_held_drew (S := fun v => Chg Non (w.alloc (.cells #[.int .u8 op, .int .u8 a, .int .u8 b2, .int .u8 c, .int .i64 n] 143)) v) (by kernel_rfl) ((Chg.refl Non _).drew) (fun hHeld => ?_)
 clear hHeld
 refine hp 0 8 (.pointer (some ⟨b, 0, none⟩)) rfl ((Chg.refl _ _).drew) ?_
 refine hp 1 9 (.pointer (some ⟨b, 0, none⟩)) rfl ((Chg.refl _ _).drew) ?_
 refine hp 2 10 (.pointer (some ⟨b, 13, none⟩)) rfl ((Chg.refl _ _).drew) ?_
 refine hp 3 11 (.slice A l.length cl) rfl ((Chg.refl _ _).drew) ?_ (he := (fun w e => by have hq := (HP1.out.non e).cells.2.2.2.2.2; go_simp))
 refine hp 4 12 (.pointer (some ⟨b, 0, none⟩)) rfl ((Chg.refl _ _).drew) ?_
 refine h_load 5 (some 13) 143 (.tmp 3) w.heap.size 0 #[.int .u8 op, .int .u8 a, .int .u8 b2, .int .u8 c, .int .i64 n] _ rfl (by kernel_rfl) (by kernel_rfl) (by kernel_rfl) (by kernel_rfl) (by kernel_rfl) (fun _ _ _ h => h) (by kernel_rfl) (by kernel_rfl) (fun w h => row_range (blockN h HX.out)) Tryz.underlying143 rfl info_ins ((Chg.refl _ _).drew) ?_
 simp only [Act.put, sA, sB, sC]
 refine h_one 6 (by kernel_rfl) rfl (by kernel_rfl) ?_
 intro K hK
 go_simp
 refine (address_ok b p _ op a b2 c n _ (HP1.out.non ((Chg.refl Non _).drew)) hb2 r hrg hn hrb).mono ?_
 rintro e y1 ⟨rfl, hg1⟩
 have HY1 := Lib.hid (((Chg.refl Non _).drew).then_non hg1)
 clear hg1
 refine hK.out _ _ HY1.out (fun _ => ?_)
 clear hK K
 refine h_one 7 (by kernel_rfl) rfl (by kernel_rfl) ?_
 intro K hK
 go_simp
 have hl := Load32_yes A l cl (r + n) _ (HR.out.non HY1.out) hlc hcm HT.out
 rw [HV.out] at hl
 refine hl.mono ?_
 rintro e y2 ⟨rfl, hg2⟩
 have HY1 := Lib.hid (HY1.out.then_non hg2)
 clear hg2
 refine hK.out _ _ HY1.out (fun _ => ?_)
 clear hK K
 refine hp 8 7 (.tuple #[.int .u32 v, .int .i64 0]) rfl HY1.out ?_
 refine hp 9 16 (.int .u32 v) rfl HY1.out ?_
 refine hp 10 17 (.int .i64 0) rfl HY1.out ?_
 refine hp 11 5 (.int .u32 v) rfl HY1.out ?_
 refine hp 12 6 (.int .i64 0) rfl HY1.out ?_
 refine wpAnyH_done (by kernel_rfl) ?_ _
 have hg : Chg Non (w.alloc (.cells #[.int .u8 op, .int .u8 a, .int .u8 b2, .int .u8 c, .int .i64 n] 143)) y2.drew := HY1.out.drew
 have hp2 := HP1.out.non hg
 obtain ⟨⟨z, c0, c1, c2, c3, c4⟩, _⟩ := (Blk5.mk (blockN hg HX.out)).all
 go_wp2_with fail
 refine wp_region_still_tail 7 (by kernel_rfl) (by kernel_rfl) ?_
 simp only [List.take_succ_cons, List.take_zero, List.drop_succ_cons, List.drop_zero]
 change wpStill _ _ y2.drew (fun a' => wpList _ _ _ _ a' y2.drew) _ _
 generalize y2.drew = w2 at hg hp2 z c0 c1 c2 c3 c4 ⊢
 have HP2 := Lib.hid hp2
 have HG2 := Lib.hid (((Chg.refl Non w).alloc _).then_non hg)
 have hlt := hp2.lt
 have hf := hp2.frozen (3 + a)
 have hca := hp2.reg a ha
 have hwv : IntKind.u32.wrap (v : Int) = v := Go.IntWalk.u32_in _ (by omega)
 clear hp2 hg
 repeat still_step
 refine wpStill_nil ?_
 go_wp2_with fail
 go_ret
 exact ⟨rfl, HP2.out.setReg a v ha, HG2.out.non_then (setAt w2 b (3 + a) _)⟩
set_option maxRecDepth 100000 in
theorem loadWord_no (b : Nat) (p : Pt) (A : Option Addr) (l : List UInt8) (cl : Nat) (op a b2 c n r : Nat) (w : World) (hp : PartB w b p (.slice A l.length cl)) (hr : Rd w A l) (hlc : l.length ≤ cl) (hcm : cl ≤ maxLen) (ha : a < 8) (hb2 : b2 < 8) (hn : n < 65536) (hrg : p.g b2 = r) (hrb : r < 4294967296) (ht : there l (r + n) 4 = false) :
  Calls Tryz.prog 245 #[.pointer (some ⟨b, 0, none⟩), .agg #[.int .u8 op, .int .u8 a, .int .u8 b2, .int .u8 c, .int .i64 n]] w fun e w' => e = .returned (.bool false) ∧ PartB w' b p (.slice A l.length cl) ∧ Chg Non w w' := by
 have hai : (a : Int) < 8 := by omega
 have hlt0 := hp.lt
 have HP := Lib.hid hp
 have HP1 : Hid (PartB (w.alloc (.cells #[.int .u8 op, .int .u8 a, .int .u8 b2, .int .u8 c, .int .i64 n] 143)) b p (.slice A l.length cl)) := Lib.hid (hp.non ((Chg.refl Non w).alloc _))
 have HR := Lib.hid (hr.non ((Chg.refl Non w).alloc (.cells #[.int .u8 op, .int .u8 a, .int .u8 b2, .int .u8 c, .int .i64 n] 143)))
 have HX := Lib.hid (heap_alloc_new w (.cells #[.int .u8 op, .int .u8 a, .int .u8 b2, .int .u8 c, .int .i64 n] 143))
 have HT := Lib.hid ht
 clear hp hr ht
 go_enter Tryz.func245, Tryz.ntmps245
 go_wp2_with fail
 refine wp_region_held_drew (S := fun v => Chg Non (w.alloc (.cells #[.int .u8 op, .int .u8 a, .int .u8 b2, .int .u8 c, .int .i64 n] 143)) v) (by kernel_rfl) ((Chg.refl Non _).drew) (fun hHeld => ?_)
 clear hHeld
 refine hp 0 8 (.pointer (some ⟨b, 0, none⟩)) rfl ((Chg.refl _ _).drew) ?_
 refine hp 1 9 (.pointer (some ⟨b, 0, none⟩)) rfl ((Chg.refl _ _).drew) ?_
 refine hp 2 10 (.pointer (some ⟨b, 13, none⟩)) rfl ((Chg.refl _ _).drew) ?_
 refine hp 3 11 (.slice A l.length cl) rfl ((Chg.refl _ _).drew) ?_ (he := (fun w e => by have hq := (HP1.out.non e).cells.2.2.2.2.2; go_simp))
 refine hp 4 12 (.pointer (some ⟨b, 0, none⟩)) rfl ((Chg.refl _ _).drew) ?_
 refine h_load 5 (some 13) 143 (.tmp 3) w.heap.size 0 #[.int .u8 op, .int .u8 a, .int .u8 b2, .int .u8 c, .int .i64 n] _ rfl (by kernel_rfl) (by kernel_rfl) (by kernel_rfl) (by kernel_rfl) (by kernel_rfl) (fun _ _ _ h => h) (by kernel_rfl) (by kernel_rfl) (fun w h => row_range (blockN h HX.out)) Tryz.underlying143 rfl info_ins ((Chg.refl _ _).drew) ?_
 simp only [Act.put, sA, sB, sC]
 refine h_one 6 (by kernel_rfl) rfl (by kernel_rfl) ?_
 intro K hK
 go_simp
 refine (address_ok b p _ op a b2 c n _ (HP1.out.non ((Chg.refl Non _).drew)) hb2 r hrg hn hrb).mono ?_
 rintro e y1 ⟨rfl, hg1⟩
 have HY1 := Lib.hid (((Chg.refl Non _).drew).then_non hg1)
 clear hg1
 refine hK.out _ _ HY1.out (fun _ => ?_)
 clear hK K
 refine h_one 7 (by kernel_rfl) rfl (by kernel_rfl) ?_
 intro K hK
 go_simp
 refine (Load32_no A l cl (r + n) _ (by omega) HT.out).mono ?_
 rintro e y2 ⟨er, her, rfl, rfl⟩
 refine hK.out _ _ HY1.out (fun _ => ?_)
 clear hK K
 refine hp 8 7 (.tuple #[.int .u32 0, .int .i64 er]) rfl HY1.out ?_
 refine hp 9 16 (.int .u32 0) rfl HY1.out ?_
 refine hp 10 17 (.int .i64 er) rfl HY1.out ?_
 refine hp 11 5 (.int .u32 0) rfl HY1.out ?_
 refine hp 12 6 (.int .i64 er) rfl HY1.out ?_
 refine wpAnyH_done (by kernel_rfl) ?_ _
 go_wp2_with fail
 go_ret
 exact ⟨rfl, HP1.out.non HY1.out, ((Chg.refl Non w).alloc _).then_non HY1.out⟩
set_option maxRecDepth 100000 in
theorem storeByte_yes (b : Nat) (p : Pt) (A : Option Addr) (l : List UInt8) (cl : Nat) (op a b2 c n r : Nat) (w : World) (hp : PartB w b p (.slice A l.length cl)) (hr : Rd w A l) (hlc : l.length ≤ cl) (hcm : cl ≤ maxLen) (ha : a < 8) (hb2 : b2 < 8) (hn : n < 65536) (hrg : p.g b2 = r) (hrb : r < 4294967296) (ra : Nat) (hra : p.g a = ra) (hrab : ra < 4294967296) (ht : there l (r + n) 1 = true) :
  Calls Tryz.prog 244 #[.pointer (some ⟨b, 0, none⟩), .agg #[.int .u8 op, .int .u8 a, .int .u8 b2, .int .u8 c, .int .i64 n]] w fun e w' => ∃ A2 c2, e = .returned (.bool true) ∧ PartB w' b p (.slice A2 l.length c2) ∧ l.length ≤ c2 ∧ c2 ≤ maxLen ∧ Own w.heap.size w' A2 (put l (r + n) ([UInt8.ofNat ra])) ∧ Chg (fun k => k = b) w w' := by
 have hai : (a : Int) < 8 := by omega
 have hlt0 := hp.lt
 have HP := Lib.hid hp
 have HP1 : Hid (PartB (w.alloc (.cells #[.int .u8 op, .int .u8 a, .int .u8 b2, .int .u8 c, .int .i64 n] 143)) b p (.slice A l.length cl)) := Lib.hid (hp.non ((Chg.refl Non w).alloc _))
 have HR := Lib.hid (hr.non ((Chg.refl Non w).alloc (.cells #[.int .u8 op, .int .u8 a, .int .u8 b2, .int .u8 c, .int .i64 n] 143)))
 have HX := Lib.hid (heap_alloc_new w (.cells #[.int .u8 op, .int .u8 a, .int .u8 b2, .int .u8 c, .int .i64 n] 143))
 have HT := Lib.hid ht
 obtain ⟨rb, hrb8⟩ : ∃ rb, ra % 256 = rb := ⟨_, rfl⟩
 have hrb256 : rb < 256 := by omega
 have hofb : UInt8.ofNat rb = UInt8.ofNat ra := by rw [← hrb8]; apply UInt8.toNat_inj.1; simp
 have HOb := Lib.hid hofb
 clear hofb
 clear hp hr ht
 go_enter Tryz.func244, Tryz.ntmps244
 go_wp2_with fail
 refine wp_region_held_drew (S := fun v => Chg Non (w.alloc (.cells #[.int .u8 op, .int .u8 a, .int .u8 b2, .int .u8 c, .int .i64 n] 143)) v) (by kernel_rfl) ((Chg.refl Non _).drew) (fun hHeld => ?_)
 clear hHeld
 refine hp 0 8 (.pointer (some ⟨b, 0, none⟩)) rfl ((Chg.refl _ _).drew) ?_
 refine hp 1 9 (.pointer (some ⟨b, 0, none⟩)) rfl ((Chg.refl _ _).drew) ?_
 refine hp 2 10 (.pointer (some ⟨b, 13, none⟩)) rfl ((Chg.refl _ _).drew) ?_
 refine hp 3 11 (.slice A l.length cl) rfl ((Chg.refl _ _).drew) ?_ (he := (fun w e => by have hq := (HP1.out.non e).cells.2.2.2.2.2; go_simp))
 refine hp 4 12 (.pointer (some ⟨b, 0, none⟩)) rfl ((Chg.refl _ _).drew) ?_
 refine h_load 5 (some 13) 143 (.tmp 3) w.heap.size 0 #[.int .u8 op, .int .u8 a, .int .u8 b2, .int .u8 c, .int .i64 n] _ rfl (by kernel_rfl) (by kernel_rfl) (by kernel_rfl) (by kernel_rfl) (by kernel_rfl) (fun _ _ _ h => h) (by kernel_rfl) (by kernel_rfl) (fun w h => row_range (blockN h HX.out)) Tryz.underlying143 rfl info_ins ((Chg.refl _ _).drew) ?_
 simp only [Act.put, sA, sB, sC]
 refine hp 7 15 (.pointer (some ⟨b, 0, none⟩)) rfl ((Chg.refl _ _).drew) ?_
 refine hp 8 16 (.pointer (some ⟨w.heap.size, 1, none⟩)) rfl ((Chg.refl _ _).drew) ?_
 refine hp 9 17 (.int .u8 a) rfl ((Chg.refl _ _).drew) ?_ (he := (fun w e => by obtain ⟨⟨_, _, hq, _⟩, _⟩ := (Blk5.mk (blockN e HX.out)).all; go_simp))
 refine hp 10 18 (.pointer (some ⟨b, 0, none⟩)) rfl ((Chg.refl _ _).drew) ?_
 refine hp 11 19 (.pointer (some ⟨b, 3, none⟩)) rfl ((Chg.refl _ _).drew) ?_
 refine hp 12 20 (.pointer (some ⟨b, 3 + a, none⟩)) rfl ((Chg.refl _ _).drew) ?_
 refine hp 13 21 (.int .u32 ra) rfl ((Chg.refl _ _).drew) ?_ (he := (fun w e => by have hq := (HP1.out.non e).reg a ha; rw [hra] at hq; go_simp))
 refine hp 14 22 (.int .u8 rb) rfl ((Chg.refl _ _).drew) ?_ (he := (fun w e => by go_simp; rw [IntKind.wrap_u8]; omega))
 refine h_one 6 (by kernel_rfl) rfl (by kernel_rfl) ?_
 intro K hK
 go_simp
 refine (address_ok b p _ op a b2 c n _ (HP1.out.non ((Chg.refl Non _).drew)) hb2 r hrg hn hrb).mono ?_
 rintro e y1 ⟨rfl, hg1⟩
 have HY1 := Lib.hid (((Chg.refl Non _).drew).then_non hg1)
 clear hg1
 refine hK.out _ _ HY1.out (fun _ => ?_)
 clear hK K
 refine h_one 15 (by kernel_rfl) rfl (by kernel_rfl) ?_
 intro K hK
 go_simp
 refine (Store_yes A l cl (r + n) rb _ hrb256 (HR.out.non HY1.out) hlc hcm HT.out).mono ?_
 rintro e y2 ⟨A2, c2, rfl, q1, q2, q3, q4⟩
 have HOw := Lib.hid (q3.mono (show w.heap.size ≤ _ by have h1 := HY1.out.size; simp at h1; omega))
 have HY1 := Lib.hid (HY1.out.then_non q4)
 clear q3 q4
 refine hK.out _ _ HY1.out (fun _ => ?_)
 clear hK K
 refine hp 16 7 (.tuple #[.slice A2 l.length c2, .int .i64 0]) rfl HY1.out ?_
 refine hp 17 24 (.slice A2 l.length c2) rfl HY1.out ?_
 refine hp 18 25 (.int .i64 0) rfl HY1.out ?_
 refine hp 19 5 (.slice A2 l.length c2) rfl HY1.out ?_
 refine hp 20 6 (.int .i64 0) rfl HY1.out ?_
 refine wpAnyH_done (by kernel_rfl) ?_ _
 have HP2 := Lib.hid (HP1.out.non HY1.out)
 have HG2 := Lib.hid (((Chg.refl Non w).alloc _).then_non HY1.out)
 have hc13 := HP2.out.cells.2.2.2.2.2
 have hlt := HP2.out.lt
 have hf := HP2.out.frozen 13
 go_wp2_with fail
 go_ret
 refine ⟨A2, c2, rfl, HP2.out.setMem _, q1, q2, ?_, HG2.out.non_then (setAt y2 b 13 _)⟩
 have ho := HOw.out.keep (setAt y2 b 13 (.slice A2 l.length c2)) (fun b' o' e1 e2 e3 e4 => by have := e2; omega) ; rw [HOb.out] at ho
 exact ho
set_option maxRecDepth 100000 in
theorem storeByte_no (b : Nat) (p : Pt) (A : Option Addr) (l : List UInt8) (cl : Nat) (op a b2 c n r : Nat) (w : World) (hp : PartB w b p (.slice A l.length cl)) (hr : Rd w A l) (hlc : l.length ≤ cl) (hcm : cl ≤ maxLen) (ha : a < 8) (hb2 : b2 < 8) (hn : n < 65536) (hrg : p.g b2 = r) (hrb : r < 4294967296) (ra : Nat) (hra : p.g a = ra) (hrab : ra < 4294967296) (ht : there l (r + n) 1 = false) :
  Calls Tryz.prog 244 #[.pointer (some ⟨b, 0, none⟩), .agg #[.int .u8 op, .int .u8 a, .int .u8 b2, .int .u8 c, .int .i64 n]] w fun e w' => e = .returned (.bool false) ∧ PartB w' b p (.slice A l.length cl) ∧ Chg Non w w' := by
 have hai : (a : Int) < 8 := by omega
 have hlt0 := hp.lt
 have HP := Lib.hid hp
 have HP1 : Hid (PartB (w.alloc (.cells #[.int .u8 op, .int .u8 a, .int .u8 b2, .int .u8 c, .int .i64 n] 143)) b p (.slice A l.length cl)) := Lib.hid (hp.non ((Chg.refl Non w).alloc _))
 have HR := Lib.hid (hr.non ((Chg.refl Non w).alloc (.cells #[.int .u8 op, .int .u8 a, .int .u8 b2, .int .u8 c, .int .i64 n] 143)))
 have HX := Lib.hid (heap_alloc_new w (.cells #[.int .u8 op, .int .u8 a, .int .u8 b2, .int .u8 c, .int .i64 n] 143))
 have HT := Lib.hid ht
 obtain ⟨rb, hrb8⟩ : ∃ rb, ra % 256 = rb := ⟨_, rfl⟩
 have hrb256 : rb < 256 := by omega
 have hofb : UInt8.ofNat rb = UInt8.ofNat ra := by rw [← hrb8]; apply UInt8.toNat_inj.1; simp
 have HOb := Lib.hid hofb
 clear hofb
 clear hp hr ht
 go_enter Tryz.func244, Tryz.ntmps244
 go_wp2_with fail
 refine wp_region_held_drew (S := fun v => Chg Non (w.alloc (.cells #[.int .u8 op, .int .u8 a, .int .u8 b2, .int .u8 c, .int .i64 n] 143)) v) (by kernel_rfl) ((Chg.refl Non _).drew) (fun hHeld => ?_)
 clear hHeld
 refine hp 0 8 (.pointer (some ⟨b, 0, none⟩)) rfl ((Chg.refl _ _).drew) ?_
 refine hp 1 9 (.pointer (some ⟨b, 0, none⟩)) rfl ((Chg.refl _ _).drew) ?_
 refine hp 2 10 (.pointer (some ⟨b, 13, none⟩)) rfl ((Chg.refl _ _).drew) ?_
 refine hp 3 11 (.slice A l.length cl) rfl ((Chg.refl _ _).drew) ?_ (he := (fun w e => by have hq := (HP1.out.non e).cells.2.2.2.2.2; go_simp))
 refine hp 4 12 (.pointer (some ⟨b, 0, none⟩)) rfl ((Chg.refl _ _).drew) ?_
 refine h_load 5 (some 13) 143 (.tmp 3) w.heap.size 0 #[.int .u8 op, .int .u8 a, .int .u8 b2, .int .u8 c, .int .i64 n] _ rfl (by kernel_rfl) (by kernel_rfl) (by kernel_rfl) (by kernel_rfl) (by kernel_rfl) (fun _ _ _ h => h) (by kernel_rfl) (by kernel_rfl) (fun w h => row_range (blockN h HX.out)) Tryz.underlying143 rfl info_ins ((Chg.refl _ _).drew) ?_
 simp only [Act.put, sA, sB, sC]
 refine hp 7 15 (.pointer (some ⟨b, 0, none⟩)) rfl ((Chg.refl _ _).drew) ?_
 refine hp 8 16 (.pointer (some ⟨w.heap.size, 1, none⟩)) rfl ((Chg.refl _ _).drew) ?_
 refine hp 9 17 (.int .u8 a) rfl ((Chg.refl _ _).drew) ?_ (he := (fun w e => by obtain ⟨⟨_, _, hq, _⟩, _⟩ := (Blk5.mk (blockN e HX.out)).all; go_simp))
 refine hp 10 18 (.pointer (some ⟨b, 0, none⟩)) rfl ((Chg.refl _ _).drew) ?_
 refine hp 11 19 (.pointer (some ⟨b, 3, none⟩)) rfl ((Chg.refl _ _).drew) ?_
 refine hp 12 20 (.pointer (some ⟨b, 3 + a, none⟩)) rfl ((Chg.refl _ _).drew) ?_
 refine hp 13 21 (.int .u32 ra) rfl ((Chg.refl _ _).drew) ?_ (he := (fun w e => by have hq := (HP1.out.non e).reg a ha; rw [hra] at hq; go_simp))
 refine hp 14 22 (.int .u8 rb) rfl ((Chg.refl _ _).drew) ?_ (he := (fun w e => by go_simp; rw [IntKind.wrap_u8]; omega))
 refine h_one 6 (by kernel_rfl) rfl (by kernel_rfl) ?_
 intro K hK
 go_simp
 refine (address_ok b p _ op a b2 c n _ (HP1.out.non ((Chg.refl Non _).drew)) hb2 r hrg hn hrb).mono ?_
 rintro e y1 ⟨rfl, hg1⟩
 have HY1 := Lib.hid (((Chg.refl Non _).drew).then_non hg1)
 clear hg1
 refine hK.out _ _ HY1.out (fun _ => ?_)
 clear hK K
 refine h_one 15 (by kernel_rfl) rfl (by kernel_rfl) ?_
 intro K hK
 go_simp
 refine (Store_no A l cl (r + n) rb _ (by omega) HT.out).mono ?_
 rintro e y2 ⟨er, her, rfl, q4⟩
 have HY1 := Lib.hid (HY1.out.then_non q4)
 clear q4
 refine hK.out _ _ HY1.out (fun _ => ?_)
 clear hK K
 refine hp 16 7 (.tuple #[.slice none 0 0, .int .i64 er]) rfl HY1.out ?_
 refine hp 17 24 (.slice none 0 0) rfl HY1.out ?_
 refine hp 18 25 (.int .i64 er) rfl HY1.out ?_
 refine hp 19 5 (.slice none 0 0) rfl HY1.out ?_
 refine hp 20 6 (.int .i64 er) rfl HY1.out ?_
 refine wpAnyH_done (by kernel_rfl) ?_ _
 go_wp2_with fail
 go_ret
 exact ⟨rfl, HP1.out.non HY1.out, ((Chg.refl Non w).alloc _).then_non HY1.out⟩
set_option maxRecDepth 100000 in
theorem storeWord_yes (b : Nat) (p : Pt) (A : Option Addr) (l : List UInt8) (cl : Nat) (op a b2 c n r : Nat) (w : World) (hp : PartB w b p (.slice A l.length cl)) (hr : Rd w A l) (hlc : l.length ≤ cl) (hcm : cl ≤ maxLen) (ha : a < 8) (hb2 : b2 < 8) (hn : n < 65536) (hrg : p.g b2 = r) (hrb : r < 4294967296) (ra : Nat) (hra : p.g a = ra) (hrab : ra < 4294967296) (ht : there l (r + n) 4 = true) :
  Calls Tryz.prog 246 #[.pointer (some ⟨b, 0, none⟩), .agg #[.int .u8 op, .int .u8 a, .int .u8 b2, .int .u8 c, .int .i64 n]] w fun e w' => ∃ A2 c2, e = .returned (.bool true) ∧ PartB w' b p (.slice A2 l.length c2) ∧ l.length ≤ c2 ∧ c2 ≤ maxLen ∧ Own w.heap.size w' A2 (put l (r + n) (word32 ra)) ∧ Chg (fun k => k = b) w w' := by
 have hai : (a : Int) < 8 := by omega
 have hlt0 := hp.lt
 have HP := Lib.hid hp
 have HP1 : Hid (PartB (w.alloc (.cells #[.int .u8 op, .int .u8 a, .int .u8 b2, .int .u8 c, .int .i64 n] 143)) b p (.slice A l.length cl)) := Lib.hid (hp.non ((Chg.refl Non w).alloc _))
 have HR := Lib.hid (hr.non ((Chg.refl Non w).alloc (.cells #[.int .u8 op, .int .u8 a, .int .u8 b2, .int .u8 c, .int .i64 n] 143)))
 have HX := Lib.hid (heap_alloc_new w (.cells #[.int .u8 op, .int .u8 a, .int .u8 b2, .int .u8 c, .int .i64 n] 143))
 have HT := Lib.hid ht
 clear hp hr ht
 go_enter Tryz.func246, Tryz.ntmps246
 go_wp2_with fail
 refine wp_region_held_drew (S := fun v => Chg Non (w.alloc (.cells #[.int .u8 op, .int .u8 a, .int .u8 b2, .int .u8 c, .int .i64 n] 143)) v) (by kernel_rfl) ((Chg.refl Non _).drew) (fun hHeld => ?_)
 clear hHeld
 refine hp 0 8 (.pointer (some ⟨b, 0, none⟩)) rfl ((Chg.refl _ _).drew) ?_
 refine hp 1 9 (.pointer (some ⟨b, 0, none⟩)) rfl ((Chg.refl _ _).drew) ?_
 refine hp 2 10 (.pointer (some ⟨b, 13, none⟩)) rfl ((Chg.refl _ _).drew) ?_
 refine hp 3 11 (.slice A l.length cl) rfl ((Chg.refl _ _).drew) ?_ (he := (fun w e => by have hq := (HP1.out.non e).cells.2.2.2.2.2; go_simp))
 refine hp 4 12 (.pointer (some ⟨b, 0, none⟩)) rfl ((Chg.refl _ _).drew) ?_
 refine h_load 5 (some 13) 143 (.tmp 3) w.heap.size 0 #[.int .u8 op, .int .u8 a, .int .u8 b2, .int .u8 c, .int .i64 n] _ rfl (by kernel_rfl) (by kernel_rfl) (by kernel_rfl) (by kernel_rfl) (by kernel_rfl) (fun _ _ _ h => h) (by kernel_rfl) (by kernel_rfl) (fun w h => row_range (blockN h HX.out)) Tryz.underlying143 rfl info_ins ((Chg.refl _ _).drew) ?_
 simp only [Act.put, sA, sB, sC]
 refine hp 7 15 (.pointer (some ⟨b, 0, none⟩)) rfl ((Chg.refl _ _).drew) ?_
 refine hp 8 16 (.pointer (some ⟨w.heap.size, 1, none⟩)) rfl ((Chg.refl _ _).drew) ?_
 refine hp 9 17 (.int .u8 a) rfl ((Chg.refl _ _).drew) ?_ (he := (fun w e => by obtain ⟨⟨_, _, hq, _⟩, _⟩ := (Blk5.mk (blockN e HX.out)).all; go_simp))
 refine hp 10 18 (.pointer (some ⟨b, 0, none⟩)) rfl ((Chg.refl _ _).drew) ?_
 refine hp 11 19 (.pointer (some ⟨b, 3, none⟩)) rfl ((Chg.refl _ _).drew) ?_
 refine hp 12 20 (.pointer (some ⟨b, 3 + a, none⟩)) rfl ((Chg.refl _ _).drew) ?_
 refine hp 13 21 (.int .u32 ra) rfl ((Chg.refl _ _).drew) ?_ (he := (fun w e => by have hq := (HP1.out.non e).reg a ha; rw [hra] at hq; go_simp))
 refine h_one 6 (by kernel_rfl) rfl (by kernel_rfl) ?_
 intro K hK
 go_simp
 refine (address_ok b p _ op a b2 c n _ (HP1.out.non ((Chg.refl Non _).drew)) hb2 r hrg hn hrb).mono ?_
 rintro e y1 ⟨rfl, hg1⟩
 have HY1 := Lib.hid (((Chg.refl Non _).drew).then_non hg1)
 clear hg1
 refine hK.out _ _ HY1.out (fun _ => ?_)
 clear hK K
 refine h_one 14 (by kernel_rfl) rfl (by kernel_rfl) ?_
 intro K hK
 go_simp
 refine (Store32_yes A l cl (r + n) ra _ hrab (HR.out.non HY1.out) hlc hcm HT.out).mono ?_
 rintro e y2 ⟨A2, c2, rfl, q1, q2, q3, q4⟩
 have HOw := Lib.hid (q3.mono (show w.heap.size ≤ _ by have h1 := HY1.out.size; simp at h1; omega))
 have HY1 := Lib.hid (HY1.out.then_non q4)
 clear q3 q4
 refine hK.out _ _ HY1.out (fun _ => ?_)
 clear hK K
 refine hp 15 7 (.tuple #[.slice A2 l.length c2, .int .i64 0]) rfl HY1.out ?_
 refine hp 16 23 (.slice A2 l.length c2) rfl HY1.out ?_
 refine hp 17 24 (.int .i64 0) rfl HY1.out ?_
 refine hp 18 5 (.slice A2 l.length c2) rfl HY1.out ?_
 refine hp 19 6 (.int .i64 0) rfl HY1.out ?_
 refine wpAnyH_done (by kernel_rfl) ?_ _
 have HP2 := Lib.hid (HP1.out.non HY1.out)
 have HG2 := Lib.hid (((Chg.refl Non w).alloc _).then_non HY1.out)
 have hc13 := HP2.out.cells.2.2.2.2.2
 have hlt := HP2.out.lt
 have hf := HP2.out.frozen 13
 go_wp2_with fail
 go_ret
 refine ⟨A2, c2, rfl, HP2.out.setMem _, q1, q2, ?_, HG2.out.non_then (setAt y2 b 13 _)⟩
 have ho := HOw.out.keep (setAt y2 b 13 (.slice A2 l.length c2)) (fun b' o' e1 e2 e3 e4 => by have := e2; omega)
 exact ho
set_option maxRecDepth 100000 in
theorem storeWord_no (b : Nat) (p : Pt) (A : Option Addr) (l : List UInt8) (cl : Nat) (op a b2 c n r : Nat) (w : World) (hp : PartB w b p (.slice A l.length cl)) (hr : Rd w A l) (hlc : l.length ≤ cl) (hcm : cl ≤ maxLen) (ha : a < 8) (hb2 : b2 < 8) (hn : n < 65536) (hrg : p.g b2 = r) (hrb : r < 4294967296) (ra : Nat) (hra : p.g a = ra) (hrab : ra < 4294967296) (ht : there l (r + n) 4 = false) :
  Calls Tryz.prog 246 #[.pointer (some ⟨b, 0, none⟩), .agg #[.int .u8 op, .int .u8 a, .int .u8 b2, .int .u8 c, .int .i64 n]] w fun e w' => e = .returned (.bool false) ∧ PartB w' b p (.slice A l.length cl) ∧ Chg Non w w' := by
 have hai : (a : Int) < 8 := by omega
 have hlt0 := hp.lt
 have HP := Lib.hid hp
 have HP1 : Hid (PartB (w.alloc (.cells #[.int .u8 op, .int .u8 a, .int .u8 b2, .int .u8 c, .int .i64 n] 143)) b p (.slice A l.length cl)) := Lib.hid (hp.non ((Chg.refl Non w).alloc _))
 have HR := Lib.hid (hr.non ((Chg.refl Non w).alloc (.cells #[.int .u8 op, .int .u8 a, .int .u8 b2, .int .u8 c, .int .i64 n] 143)))
 have HX := Lib.hid (heap_alloc_new w (.cells #[.int .u8 op, .int .u8 a, .int .u8 b2, .int .u8 c, .int .i64 n] 143))
 have HT := Lib.hid ht
 clear hp hr ht
 go_enter Tryz.func246, Tryz.ntmps246
 go_wp2_with fail
 refine wp_region_held_drew (S := fun v => Chg Non (w.alloc (.cells #[.int .u8 op, .int .u8 a, .int .u8 b2, .int .u8 c, .int .i64 n] 143)) v) (by kernel_rfl) ((Chg.refl Non _).drew) (fun hHeld => ?_)
 clear hHeld
 refine hp 0 8 (.pointer (some ⟨b, 0, none⟩)) rfl ((Chg.refl _ _).drew) ?_
 refine hp 1 9 (.pointer (some ⟨b, 0, none⟩)) rfl ((Chg.refl _ _).drew) ?_
 refine hp 2 10 (.pointer (some ⟨b, 13, none⟩)) rfl ((Chg.refl _ _).drew) ?_
 refine hp 3 11 (.slice A l.length cl) rfl ((Chg.refl _ _).drew) ?_ (he := (fun w e => by have hq := (HP1.out.non e).cells.2.2.2.2.2; go_simp))
 refine hp 4 12 (.pointer (some ⟨b, 0, none⟩)) rfl ((Chg.refl _ _).drew) ?_
 refine h_load 5 (some 13) 143 (.tmp 3) w.heap.size 0 #[.int .u8 op, .int .u8 a, .int .u8 b2, .int .u8 c, .int .i64 n] _ rfl (by kernel_rfl) (by kernel_rfl) (by kernel_rfl) (by kernel_rfl) (by kernel_rfl) (fun _ _ _ h => h) (by kernel_rfl) (by kernel_rfl) (fun w h => row_range (blockN h HX.out)) Tryz.underlying143 rfl info_ins ((Chg.refl _ _).drew) ?_
 simp only [Act.put, sA, sB, sC]
 refine hp 7 15 (.pointer (some ⟨b, 0, none⟩)) rfl ((Chg.refl _ _).drew) ?_
 refine hp 8 16 (.pointer (some ⟨w.heap.size, 1, none⟩)) rfl ((Chg.refl _ _).drew) ?_
 refine hp 9 17 (.int .u8 a) rfl ((Chg.refl _ _).drew) ?_ (he := (fun w e => by obtain ⟨⟨_, _, hq, _⟩, _⟩ := (Blk5.mk (blockN e HX.out)).all; go_simp))
 refine hp 10 18 (.pointer (some ⟨b, 0, none⟩)) rfl ((Chg.refl _ _).drew) ?_
 refine hp 11 19 (.pointer (some ⟨b, 3, none⟩)) rfl ((Chg.refl _ _).drew) ?_
 refine hp 12 20 (.pointer (some ⟨b, 3 + a, none⟩)) rfl ((Chg.refl _ _).drew) ?_
 refine hp 13 21 (.int .u32 ra) rfl ((Chg.refl _ _).drew) ?_ (he := (fun w e => by have hq := (HP1.out.non e).reg a ha; rw [hra] at hq; go_simp))
 refine h_one 6 (by kernel_rfl) rfl (by kernel_rfl) ?_
 intro K hK
 go_simp
 refine (address_ok b p _ op a b2 c n _ (HP1.out.non ((Chg.refl Non _).drew)) hb2 r hrg hn hrb).mono ?_
 rintro e y1 ⟨rfl, hg1⟩
 have HY1 := Lib.hid (((Chg.refl Non _).drew).then_non hg1)
 clear hg1
 refine hK.out _ _ HY1.out (fun _ => ?_)
 clear hK K
 refine h_one 14 (by kernel_rfl) rfl (by kernel_rfl) ?_
 intro K hK
 go_simp
 refine (Store32_no A l cl (r + n) ra _ hrab (by omega) HT.out).mono ?_
 rintro e y2 ⟨er, her, rfl, q4⟩
 have HY1 := Lib.hid (HY1.out.then_non q4)
 clear q4
 refine hK.out _ _ HY1.out (fun _ => ?_)
 clear hK K
 refine hp 15 7 (.tuple #[.slice none 0 0, .int .i64 er]) rfl HY1.out ?_
 refine hp 16 23 (.slice none 0 0) rfl HY1.out ?_
 refine hp 17 24 (.int .i64 er) rfl HY1.out ?_
 refine hp 18 5 (.slice none 0 0) rfl HY1.out ?_
 refine hp 19 6 (.int .i64 er) rfl HY1.out ?_
 refine wpAnyH_done (by kernel_rfl) ?_ _
 go_wp2_with fail
 go_ret
 exact ⟨rfl, HP1.out.non HY1.out, ((Chg.refl Non w).alloc _).then_non HY1.out⟩
end
end Go.Proofs.YtmnaleaghfbclaaGreatDoor
