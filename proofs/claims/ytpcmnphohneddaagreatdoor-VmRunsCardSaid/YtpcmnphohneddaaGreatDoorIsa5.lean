/- Walks of package isa: Decode. (Written by wip/gen_isa5.py.) -/
import Derived.Test.YtpcmnphohneddaaGreatDoorIsaEq
import Derived.Laws.BitsAllLaws
namespace Go.Proofs.YtpcmnphohneddaaGreatDoor
open Go.RowKit
set_option linter.unusedVariables false

theorem dec_w (p q r s : Nat) (h : 255 < (opAt p).n) : decI p q r s = ⟨p, q, 0, 0, (256 * r + s : Nat)⟩ := by unfold decI; rw [if_pos h]; simp
theorem dec_s (p q r s : Nat) (h : ¬ 255 < (opAt p).n) (h2 : 0 < (opAt p).n) : decI p q r s = ⟨p, q, r, 0, s⟩ := by unfold decI; rw [if_neg h, if_pos h2]
theorem dec_n (p q r s : Nat) (h : ¬ 255 < (opAt p).n) (h2 : ¬ 0 < (opAt p).n) : decI p q r s = ⟨p, q, r, s, 0⟩ := by unfold decI; rw [if_neg h, if_neg h2]
theorem cells4 (w w' : World) (v0 v1 v2 v3 : Value) (t : TypeId) (hg : Chg Non (w.alloc (.cells #[v0, v1, v2, v3] t)) w') :
    w.heap.size < w'.heap.size ∧ w'.cell? ⟨w.heap.size, 0, none⟩ = some v0 ∧ w'.cell? ⟨w.heap.size, 1, none⟩ = some v1 ∧ w'.cell? ⟨w.heap.size, 2, none⟩ = some v2 ∧ w'.cell? ⟨w.heap.size, 3, none⟩ = some v3 := by
  have hb := new_block hg
  exact ⟨(Array.getElem?_eq_some_iff.1 hb).1, row_cell hb rfl, row_cell hb rfl, row_cell hb rfl, row_cell hb rfl⟩
/-- four cells of a block -/
def Cells4 (w' : World) (b : Nat) (v0 v1 v2 v3 : Value) : Prop :=
  b < w'.heap.size ∧ w'.cell? ⟨b, 0, none⟩ = some v0 ∧ w'.cell? ⟨b, 1, none⟩ = some v1 ∧ w'.cell? ⟨b, 2, none⟩ = some v2 ∧ w'.cell? ⟨b, 3, none⟩ = some v3
theorem Cells4.non {w w' : World} {b : Nat} {v0 v1 v2 v3 : Value} (h : Cells4 w b v0 v1 v2 v3) (hg : Chg Non w w') : Cells4 w' b v0 v1 v2 v3 := by
  obtain ⟨hz, c0, c1, c2, c3⟩ := h
  exact ⟨Nat.lt_of_lt_of_le hz hg.size, hg.cell_some c0 (fun e => e), hg.cell_some c1 (fun e => e), hg.cell_some c2 (fun e => e), hg.cell_some c3 (fun e => e)⟩
theorem info_ins : (Tryz.prog.info? 38).map (·.size) = some 5 := by kernel_rfl
theorem or_i64 (a b : Nat) (ha : a < 65536) (hb : b < 65536) : bits .or .i64 (a : Int) (b : Int) = ((a ||| b : Nat) : Int) := by
  have hx : a ||| b < 2 ^ 16 := Nat.or_lt_two_pow (by omega) (by omega)
  show IntKind.i64.wrap ((BitVec.ofInt 64 (a : Int) ||| BitVec.ofInt 64 (b : Int)).toNat : Int) = _
  rw [BitVec.toNat_or, ofInt_u64 a (by omega), ofInt_u64 b (by omega)]
  simp [IntKind.wrap, IntKind.bits, IntKind.signed]
  omega
theorem or_join (r s : Nat) (hr : r < 256) (hs : s < 256) : bits .or .i64 ((r : Int) * 256) (s : Int) = ((256 * r + s : Nat) : Int) := by
  have h := or_i64 (r * 256) s (by omega) (by omega)
  rw [nat_join 8 (r * 256) s (by omega) (by omega)] at h
  rw [show ((r * 256 : Nat) : Int) = (r : Int) * 256 by omega] at h
  rw [h]
  omega
theorem four_same (p q r s : Nat) (hp : p < 256) (hq : q < 256) (hr : r < 256) (hs : s < 256) (W : World) : (binOp .neq 41 (.agg #[.int .u8 p, .int .u8 q, .int .u8 r, .int .u8 s]) (.agg #[.int .u8 p, .int .u8 q, .int .u8 r, .int .u8 s])).run Tryz.prog W = .ok (.bool false) W := by
  have h := (eq_four (p, q, r, s) (p, q, r, s) ⟨hp, hq, hr, hs⟩ ⟨hp, hq, hr, hs⟩ W).2
  simpa [fourC] using h
theorem z_lt {w W w2 : World} {b : Nat} (h : Chg Non w W) (hg : Chg Non W w2) (hz : b < w.heap.size) : b < w2.heap.size := Nat.lt_of_lt_of_le hz (Nat.le_trans h.size hg.size)
theorem dec_blkD {w w2 : World} {o : Obj} {t : TypeId} {v0 v1 v2 v3 v4 : Value} (hg : Chg Non ((w.alloc o).alloc (.cells #[v0, v1, v2, v3, v4] t)).drew w2) : Cells5 w2 (w.heap.size + 1) v0 v1 v2 v3 v4 := by
  have h := cells5A (w.alloc o) w2 v0 v1 v2 v3 v4 t (((Chg.refl Non _).drew).then_non hg)
  rwa [show (w.alloc o).heap.size = w.heap.size + 1 by simp] at h
theorem dec_blk {w w2 : World} {o : Obj} {t : TypeId} {v0 v1 v2 v3 v4 : Value} (hg : Chg Non ((w.alloc o).alloc (.cells #[v0, v1, v2, v3, v4] t)) w2) : Cells5 w2 (w.heap.size + 1) v0 v1 v2 v3 v4 := by
  have h := cells5A (w.alloc o) w2 v0 v1 v2 v3 v4 t hg
  rwa [show (w.alloc o).heap.size = w.heap.size + 1 by simp] at h

set_option maxRecDepth 100000 in
set_option maxHeartbeats 1000000 in
theorem Decode_w1 (p q r s : Nat) (w : World) (hp : p < 256) (hq : q < 256) (hr : r < 256) (hs : s < 256) (hw : 255 < (opAt p).n) (ho : okB p = true) (hm : mayB (decI p q r s) = true) :
    Calls Tryz.prog 16 #[.agg #[.int .u8 p, .int .u8 q, .int .u8 r, .int .u8 s]] w fun e w' => e = .returned (.tuple #[.agg (insC (decI p q r s)), .int .i64 0]) ∧ Chg Non w w' := by
  have HE := Lib.hid (fun w => Encode_ok (decI p q r s) w hm)
  rw [enc_dec p q r s hp hq hr hs, dec_w p q r s hw] at HE
  rw [dec_w p q r s hw]
  simp only [fourC, insC] at HE ⊢
  clear hm
  have HO := Lib.hid (fun w => of_any p w)
  rw [ho] at HO
  clear ho
  obtain ⟨F, hF⟩ : ∃ F, opAt p = F := ⟨_, rfl⟩
  rw [hF] at hw HO
  clear hF
  have hop : opC F = #[.string ⟨F.name.toArray⟩, .bool F.a, .bool F.b, .bool F.c, .int .i64 F.n] := rfl
  rw [hop] at HO
  clear hop
  have e1 : decide ((F.n : Int) > 255) = true := by simp; omega
  have hbits : bits .or .i64 ((r : Int) * 256) (s : Int) = ((256 * r + s : Nat) : Int) := or_join r s hr hs
  obtain ⟨N, hN⟩ : ∃ N, 256 * r + s = N := ⟨_, rfl⟩
  rw [hN] at HE hbits ⊢
  clear hN
  have heq : ∀ W : World, (binOp .neq 41 (.agg #[.int .u8 p, .int .u8 q, .int .u8 r, .int .u8 s]) (.agg #[.int .u8 p, .int .u8 q, .int .u8 r, .int .u8 s])).run Tryz.prog W = .ok (.bool false) W := four_same p q r s hp hq hr hs
  clear hp hq
  go_enter Tryz.func16, Tryz.ntmps16
  go_wp2_with fail
  refine (HO.out _).mono ?_
  rintro e w' ⟨rfl, hg⟩
  have HG : Hid (Chg Non w w') := Lib.hid ((((Chg.refl Non w).alloc _).alloc _).then_non hg)
  have HB := Lib.hid (enc_blk hg)
  have HC : Hid (Cells4 w' w.heap.size _ _ _ _) := Lib.hid (cells4 w w' _ _ _ _ _ (((Chg.refl Non _).alloc _).then_non hg))
  obtain ⟨hz, c0, c1, c2, c3⟩ := HC.out
  clear hg
  go_wp2_with fail
  go_region
  go_wp2_with fail
  refine (HE.out _).mono ?_
  rintro e w2 ⟨rfl, hg⟩
  have HZ2 := Lib.hid (z_lt ((((Chg.refl Non _).alloc _).alloc _).drew) hg hz)
  have HX := Lib.hid (dec_blkD hg)
  have HG2 : Hid (Chg Non w w2) := Lib.hid (((((HG.out).alloc _).alloc _).drew).then_non hg)
  have HB2 := Lib.hid (blockN (((((Chg.refl Non _).alloc _).alloc _).drew).then_non hg) HB.out)
  clear hz c0 c1 c2 c3
  obtain ⟨hz, c0, c1, c2, c3⟩ := HC.out.non (((((Chg.refl Non _).alloc _).alloc _).drew).then_non hg)
  obtain ⟨hz5, x0, x1, x2, x3, x4⟩ := HX.out
  have hzz := HZ2.out
  clear hg
  go_wp2_with (first
    | (refine sel none (.store 38 (.tmp 2) (.tmp 67)) ?_
       refine wpList_store_rowA rfl 38 (.tmp 2) (.tmp 67) rfl (w.heap.size + 1) #[.int .u8 p, .int .u8 q, .int .u8 0, .int .u8 0, .int .i64 N] rfl rfl 38 _ (blockN ((Chg.refl Non _).alloc _) HB2.out) info_ins rfl (by simp [Value.oneCell']) ?_
       intro W hgW hbW
       have HBW := Lib.hid hbW
       have HGW := Lib.hid hgW
       clear hbW hgW))
  exact bodyPost_ret (results_ct Tryz.results16 _ _ (w.heap.size + 1) 38 _ (0, 0) _ (.int .i64 0) rfl rfl HBW.out Tryz.underlying38 rfl info_ins) rfl ⟨rfl, ((HG2.out).alloc _).then_new HGW.out (fun x e => by omega)⟩

set_option maxRecDepth 100000 in
set_option maxHeartbeats 1000000 in
theorem Decode_s1 (p q r s : Nat) (w : World) (hp : p < 256) (hq : q < 256) (hr : r < 256) (hs : s < 256) (hw : ¬ 255 < (opAt p).n) (hn : 0 < (opAt p).n) (ho : okB p = true) (hm : mayB (decI p q r s) = true) :
    Calls Tryz.prog 16 #[.agg #[.int .u8 p, .int .u8 q, .int .u8 r, .int .u8 s]] w fun e w' => e = .returned (.tuple #[.agg (insC (decI p q r s)), .int .i64 0]) ∧ Chg Non w w' := by
  have HE := Lib.hid (fun w => Encode_ok (decI p q r s) w hm)
  rw [enc_dec p q r s hp hq hr hs, dec_s p q r s hw hn] at HE
  rw [dec_s p q r s hw hn]
  simp only [fourC, insC] at HE ⊢
  clear hm
  have HO := Lib.hid (fun w => of_any p w)
  rw [ho] at HO
  clear ho
  obtain ⟨F, hF⟩ : ∃ F, opAt p = F := ⟨_, rfl⟩
  rw [hF] at hw HO hn
  clear hF
  have hop : opC F = #[.string ⟨F.name.toArray⟩, .bool F.a, .bool F.b, .bool F.c, .int .i64 F.n] := rfl
  rw [hop] at HO
  clear hop
  have e1 : decide ((F.n : Int) > 255) = false := by simp; omega
  have e2 : decide ((F.n : Int) > 0) = true := by simp; omega
  have heq : ∀ W : World, (binOp .neq 41 (.agg #[.int .u8 p, .int .u8 q, .int .u8 r, .int .u8 s]) (.agg #[.int .u8 p, .int .u8 q, .int .u8 r, .int .u8 s])).run Tryz.prog W = .ok (.bool false) W := four_same p q r s hp hq hr hs
  clear hp hq
  go_enter Tryz.func16, Tryz.ntmps16
  go_wp2_with fail
  refine (HO.out _).mono ?_
  rintro e w' ⟨rfl, hg⟩
  have HG : Hid (Chg Non w w') := Lib.hid ((((Chg.refl Non w).alloc _).alloc _).then_non hg)
  have HB := Lib.hid (enc_blk hg)
  have HC : Hid (Cells4 w' w.heap.size _ _ _ _) := Lib.hid (cells4 w w' _ _ _ _ _ (((Chg.refl Non _).alloc _).then_non hg))
  obtain ⟨hz, c0, c1, c2, c3⟩ := HC.out
  clear hg
  go_wp2_with fail
  go_region
  go_wp2_with fail
  refine (HE.out _).mono ?_
  rintro e w2 ⟨rfl, hg⟩
  have HZ2 := Lib.hid (z_lt ((((Chg.refl Non _).alloc _).alloc _).drew) hg hz)
  have HX := Lib.hid (dec_blkD hg)
  have HG2 : Hid (Chg Non w w2) := Lib.hid (((((HG.out).alloc _).alloc _).drew).then_non hg)
  have HB2 := Lib.hid (blockN (((((Chg.refl Non _).alloc _).alloc _).drew).then_non hg) HB.out)
  clear hz c0 c1 c2 c3
  obtain ⟨hz, c0, c1, c2, c3⟩ := HC.out.non (((((Chg.refl Non _).alloc _).alloc _).drew).then_non hg)
  obtain ⟨hz5, x0, x1, x2, x3, x4⟩ := HX.out
  have hzz := HZ2.out
  clear hg
  go_wp2_with (first
    | (refine sel none (.store 38 (.tmp 2) (.tmp 67)) ?_
       refine wpList_store_rowA rfl 38 (.tmp 2) (.tmp 67) rfl (w.heap.size + 1) #[.int .u8 p, .int .u8 q, .int .u8 r, .int .u8 0, .int .i64 s] rfl rfl 38 _ (blockN ((Chg.refl Non _).alloc _) HB2.out) info_ins rfl (by simp [Value.oneCell']) ?_
       intro W hgW hbW
       have HBW := Lib.hid hbW
       have HGW := Lib.hid hgW
       clear hbW hgW))
  exact bodyPost_ret (results_ct Tryz.results16 _ _ (w.heap.size + 1) 38 _ (0, 0) _ (.int .i64 0) rfl rfl HBW.out Tryz.underlying38 rfl info_ins) rfl ⟨rfl, ((HG2.out).alloc _).then_new HGW.out (fun x e => by omega)⟩

set_option maxRecDepth 100000 in
set_option maxHeartbeats 1000000 in
theorem Decode_n1 (p q r s : Nat) (w : World) (hp : p < 256) (hq : q < 256) (hr : r < 256) (hs : s < 256) (hw : ¬ 255 < (opAt p).n) (hn : ¬ 0 < (opAt p).n) (ho : okB p = true) (hm : mayB (decI p q r s) = true) :
    Calls Tryz.prog 16 #[.agg #[.int .u8 p, .int .u8 q, .int .u8 r, .int .u8 s]] w fun e w' => e = .returned (.tuple #[.agg (insC (decI p q r s)), .int .i64 0]) ∧ Chg Non w w' := by
  have HE := Lib.hid (fun w => Encode_ok (decI p q r s) w hm)
  rw [enc_dec p q r s hp hq hr hs, dec_n p q r s hw hn] at HE
  rw [dec_n p q r s hw hn]
  simp only [fourC, insC] at HE ⊢
  clear hm
  have HO := Lib.hid (fun w => of_any p w)
  rw [ho] at HO
  clear ho
  obtain ⟨F, hF⟩ : ∃ F, opAt p = F := ⟨_, rfl⟩
  rw [hF] at hw HO hn
  clear hF
  have hop : opC F = #[.string ⟨F.name.toArray⟩, .bool F.a, .bool F.b, .bool F.c, .int .i64 F.n] := rfl
  rw [hop] at HO
  clear hop
  have e1 : decide ((F.n : Int) > 255) = false := by simp; omega
  have e2 : decide ((F.n : Int) > 0) = false := by simp; omega
  have heq : ∀ W : World, (binOp .neq 41 (.agg #[.int .u8 p, .int .u8 q, .int .u8 r, .int .u8 s]) (.agg #[.int .u8 p, .int .u8 q, .int .u8 r, .int .u8 s])).run Tryz.prog W = .ok (.bool false) W := four_same p q r s hp hq hr hs
  clear hp hq
  go_enter Tryz.func16, Tryz.ntmps16
  go_wp2_with fail
  refine (HO.out _).mono ?_
  rintro e w' ⟨rfl, hg⟩
  have HG : Hid (Chg Non w w') := Lib.hid ((((Chg.refl Non w).alloc _).alloc _).then_non hg)
  have HB := Lib.hid (enc_blk hg)
  have HC : Hid (Cells4 w' w.heap.size _ _ _ _) := Lib.hid (cells4 w w' _ _ _ _ _ (((Chg.refl Non _).alloc _).then_non hg))
  obtain ⟨hz, c0, c1, c2, c3⟩ := HC.out
  clear hg
  go_wp2_with fail
  refine (HE.out _).mono ?_
  rintro e w2 ⟨rfl, hg⟩
  have HZ2 := Lib.hid (z_lt (((Chg.refl Non _).alloc _).alloc _) hg hz)
  have HX := Lib.hid (dec_blk hg)
  have HG2 : Hid (Chg Non w w2) := Lib.hid ((((HG.out).alloc _).alloc _).then_non hg)
  have HB2 := Lib.hid (blockN ((((Chg.refl Non _).alloc _).alloc _).then_non hg) HB.out)
  clear hz c0 c1 c2 c3
  obtain ⟨hz, c0, c1, c2, c3⟩ := HC.out.non ((((Chg.refl Non _).alloc _).alloc _).then_non hg)
  obtain ⟨hz5, x0, x1, x2, x3, x4⟩ := HX.out
  have hzz := HZ2.out
  clear hg
  go_wp2_with (first
    | (refine sel none (.store 38 (.tmp 2) (.tmp 67)) ?_
       refine wpList_store_rowA rfl 38 (.tmp 2) (.tmp 67) rfl (w.heap.size + 1) #[.int .u8 p, .int .u8 q, .int .u8 r, .int .u8 s, .int .i64 0] rfl rfl 38 _ (blockN ((Chg.refl Non _).alloc _) HB2.out) info_ins rfl (by simp [Value.oneCell']) ?_
       intro W hgW hbW
       have HBW := Lib.hid hbW
       have HGW := Lib.hid hgW
       clear hbW hgW))
  exact bodyPost_ret (results_ct Tryz.results16 _ _ (w.heap.size + 1) 38 _ (0, 0) _ (.int .i64 0) rfl rfl HBW.out Tryz.underlying38 rfl info_ins) rfl ⟨rfl, ((HG2.out).alloc _).then_new HGW.out (fun x e => by omega)⟩

set_option maxRecDepth 100000 in
set_option maxHeartbeats 1000000 in
theorem Decode_w0 (p q r s : Nat) (w : World) (hp : p < 256) (hq : q < 256) (hr : r < 256) (hs : s < 256) (hw : 255 < (opAt p).n) (ho : okB p = true) (hm : mayB (decI p q r s) = false) :
    Calls Tryz.prog 16 #[.agg #[.int .u8 p, .int .u8 q, .int .u8 r, .int .u8 s]] w fun e w' => e = .returned (.tuple #[.agg #[.int .u8 0, .int .u8 0, .int .u8 0, .int .u8 0, .int .i64 0], .int .i64 190]) ∧ Chg Non w w' := by
  have HE := Lib.hid (fun w => Encode_no (decI p q r s) w hm)
  rw [dec_w p q r s hw] at HE
  clear hm
  have HO := Lib.hid (fun w => of_any p w)
  rw [ho] at HO
  clear ho
  obtain ⟨F, hF⟩ : ∃ F, opAt p = F := ⟨_, rfl⟩
  rw [hF] at hw HO
  clear hF
  have hop : opC F = #[.string ⟨F.name.toArray⟩, .bool F.a, .bool F.b, .bool F.c, .int .i64 F.n] := rfl
  rw [hop] at HO
  clear hop
  have e1 : decide ((F.n : Int) > 255) = true := by simp; omega
  have hbits : bits .or .i64 ((r : Int) * 256) (s : Int) = ((256 * r + s : Nat) : Int) := or_join r s hr hs
  obtain ⟨N, hN⟩ : ∃ N, 256 * r + s = N := ⟨_, rfl⟩
  rw [hN] at HE hbits
  clear hN
  clear hp hq
  go_enter Tryz.func16, Tryz.ntmps16
  go_wp2_with fail
  refine (HO.out _).mono ?_
  rintro e w' ⟨rfl, hg⟩
  have HG : Hid (Chg Non w w') := Lib.hid ((((Chg.refl Non w).alloc _).alloc _).then_non hg)
  have HB := Lib.hid (enc_blk hg)
  have HC : Hid (Cells4 w' w.heap.size _ _ _ _) := Lib.hid (cells4 w w' _ _ _ _ _ (((Chg.refl Non _).alloc _).then_non hg))
  obtain ⟨hz, c0, c1, c2, c3⟩ := HC.out
  clear hg
  go_wp2_with fail
  go_region
  go_wp2_with fail
  refine (HE.out _).mono ?_
  rintro e w2 ⟨rfl, hg⟩
  have HZ2 := Lib.hid (z_lt ((((Chg.refl Non _).alloc _).alloc _).drew) hg hz)
  have HX := Lib.hid (dec_blkD hg)
  have HG2 : Hid (Chg Non w w2) := Lib.hid (((((HG.out).alloc _).alloc _).drew).then_non hg)
  have HB2 := Lib.hid (blockN (((((Chg.refl Non _).alloc _).alloc _).drew).then_non hg) HB.out)
  clear hz c0 c1 c2 c3
  obtain ⟨hz, c0, c1, c2, c3⟩ := HC.out.non (((((Chg.refl Non _).alloc _).alloc _).drew).then_non hg)
  obtain ⟨hz5, x0, x1, x2, x3, x4⟩ := HX.out
  have hzz := HZ2.out
  clear hg
  go_wp2_with (first
    | (refine sel none (.store 38 (.tmp 2) (.tmp 66)) ?_
       refine wpList_store_rowA rfl 38 (.tmp 2) (.tmp 66) rfl (w.heap.size + 1) #[.int .u8 0, .int .u8 0, .int .u8 0, .int .u8 0, .int .i64 0] rfl rfl 38 _ (blockN ((Chg.refl Non _).alloc _) HB2.out) info_ins rfl (by simp [Value.oneCell']) ?_
       intro W hgW hbW
       have HBW := Lib.hid hbW
       have HGW := Lib.hid hgW
       clear hbW hgW))
  exact bodyPost_ret (results_ct Tryz.results16 _ _ (w.heap.size + 1) 38 _ (0, 0) _ (.int .i64 190) rfl rfl HBW.out Tryz.underlying38 rfl info_ins) rfl ⟨rfl, ((HG2.out).alloc _).then_new HGW.out (fun x e => by omega)⟩

set_option maxRecDepth 100000 in
set_option maxHeartbeats 1000000 in
theorem Decode_s0 (p q r s : Nat) (w : World) (hp : p < 256) (hq : q < 256) (hr : r < 256) (hs : s < 256) (hw : ¬ 255 < (opAt p).n) (hn : 0 < (opAt p).n) (ho : okB p = true) (hm : mayB (decI p q r s) = false) :
    Calls Tryz.prog 16 #[.agg #[.int .u8 p, .int .u8 q, .int .u8 r, .int .u8 s]] w fun e w' => e = .returned (.tuple #[.agg #[.int .u8 0, .int .u8 0, .int .u8 0, .int .u8 0, .int .i64 0], .int .i64 190]) ∧ Chg Non w w' := by
  have HE := Lib.hid (fun w => Encode_no (decI p q r s) w hm)
  rw [dec_s p q r s hw hn] at HE
  clear hm
  have HO := Lib.hid (fun w => of_any p w)
  rw [ho] at HO
  clear ho
  obtain ⟨F, hF⟩ : ∃ F, opAt p = F := ⟨_, rfl⟩
  rw [hF] at hw HO hn
  clear hF
  have hop : opC F = #[.string ⟨F.name.toArray⟩, .bool F.a, .bool F.b, .bool F.c, .int .i64 F.n] := rfl
  rw [hop] at HO
  clear hop
  have e1 : decide ((F.n : Int) > 255) = false := by simp; omega
  have e2 : decide ((F.n : Int) > 0) = true := by simp; omega
  clear hp hq
  go_enter Tryz.func16, Tryz.ntmps16
  go_wp2_with fail
  refine (HO.out _).mono ?_
  rintro e w' ⟨rfl, hg⟩
  have HG : Hid (Chg Non w w') := Lib.hid ((((Chg.refl Non w).alloc _).alloc _).then_non hg)
  have HB := Lib.hid (enc_blk hg)
  have HC : Hid (Cells4 w' w.heap.size _ _ _ _) := Lib.hid (cells4 w w' _ _ _ _ _ (((Chg.refl Non _).alloc _).then_non hg))
  obtain ⟨hz, c0, c1, c2, c3⟩ := HC.out
  clear hg
  go_wp2_with fail
  go_region
  go_wp2_with fail
  refine (HE.out _).mono ?_
  rintro e w2 ⟨rfl, hg⟩
  have HZ2 := Lib.hid (z_lt ((((Chg.refl Non _).alloc _).alloc _).drew) hg hz)
  have HX := Lib.hid (dec_blkD hg)
  have HG2 : Hid (Chg Non w w2) := Lib.hid (((((HG.out).alloc _).alloc _).drew).then_non hg)
  have HB2 := Lib.hid (blockN (((((Chg.refl Non _).alloc _).alloc _).drew).then_non hg) HB.out)
  clear hz c0 c1 c2 c3
  obtain ⟨hz, c0, c1, c2, c3⟩ := HC.out.non (((((Chg.refl Non _).alloc _).alloc _).drew).then_non hg)
  obtain ⟨hz5, x0, x1, x2, x3, x4⟩ := HX.out
  have hzz := HZ2.out
  clear hg
  go_wp2_with (first
    | (refine sel none (.store 38 (.tmp 2) (.tmp 66)) ?_
       refine wpList_store_rowA rfl 38 (.tmp 2) (.tmp 66) rfl (w.heap.size + 1) #[.int .u8 0, .int .u8 0, .int .u8 0, .int .u8 0, .int .i64 0] rfl rfl 38 _ (blockN ((Chg.refl Non _).alloc _) HB2.out) info_ins rfl (by simp [Value.oneCell']) ?_
       intro W hgW hbW
       have HBW := Lib.hid hbW
       have HGW := Lib.hid hgW
       clear hbW hgW))
  exact bodyPost_ret (results_ct Tryz.results16 _ _ (w.heap.size + 1) 38 _ (0, 0) _ (.int .i64 190) rfl rfl HBW.out Tryz.underlying38 rfl info_ins) rfl ⟨rfl, ((HG2.out).alloc _).then_new HGW.out (fun x e => by omega)⟩

set_option maxRecDepth 100000 in
set_option maxHeartbeats 1000000 in
theorem Decode_n0 (p q r s : Nat) (w : World) (hp : p < 256) (hq : q < 256) (hr : r < 256) (hs : s < 256) (hw : ¬ 255 < (opAt p).n) (hn : ¬ 0 < (opAt p).n) (ho : okB p = true) (hm : mayB (decI p q r s) = false) :
    Calls Tryz.prog 16 #[.agg #[.int .u8 p, .int .u8 q, .int .u8 r, .int .u8 s]] w fun e w' => e = .returned (.tuple #[.agg #[.int .u8 0, .int .u8 0, .int .u8 0, .int .u8 0, .int .i64 0], .int .i64 190]) ∧ Chg Non w w' := by
  have HE := Lib.hid (fun w => Encode_no (decI p q r s) w hm)
  rw [dec_n p q r s hw hn] at HE
  clear hm
  have HO := Lib.hid (fun w => of_any p w)
  rw [ho] at HO
  clear ho
  obtain ⟨F, hF⟩ : ∃ F, opAt p = F := ⟨_, rfl⟩
  rw [hF] at hw HO hn
  clear hF
  have hop : opC F = #[.string ⟨F.name.toArray⟩, .bool F.a, .bool F.b, .bool F.c, .int .i64 F.n] := rfl
  rw [hop] at HO
  clear hop
  have e1 : decide ((F.n : Int) > 255) = false := by simp; omega
  have e2 : decide ((F.n : Int) > 0) = false := by simp; omega
  clear hp hq
  go_enter Tryz.func16, Tryz.ntmps16
  go_wp2_with fail
  refine (HO.out _).mono ?_
  rintro e w' ⟨rfl, hg⟩
  have HG : Hid (Chg Non w w') := Lib.hid ((((Chg.refl Non w).alloc _).alloc _).then_non hg)
  have HB := Lib.hid (enc_blk hg)
  have HC : Hid (Cells4 w' w.heap.size _ _ _ _) := Lib.hid (cells4 w w' _ _ _ _ _ (((Chg.refl Non _).alloc _).then_non hg))
  obtain ⟨hz, c0, c1, c2, c3⟩ := HC.out
  clear hg
  go_wp2_with fail
  refine (HE.out _).mono ?_
  rintro e w2 ⟨rfl, hg⟩
  have HZ2 := Lib.hid (z_lt (((Chg.refl Non _).alloc _).alloc _) hg hz)
  have HX := Lib.hid (dec_blk hg)
  have HG2 : Hid (Chg Non w w2) := Lib.hid ((((HG.out).alloc _).alloc _).then_non hg)
  have HB2 := Lib.hid (blockN ((((Chg.refl Non _).alloc _).alloc _).then_non hg) HB.out)
  clear hz c0 c1 c2 c3
  obtain ⟨hz, c0, c1, c2, c3⟩ := HC.out.non ((((Chg.refl Non _).alloc _).alloc _).then_non hg)
  obtain ⟨hz5, x0, x1, x2, x3, x4⟩ := HX.out
  have hzz := HZ2.out
  clear hg
  go_wp2_with (first
    | (refine sel none (.store 38 (.tmp 2) (.tmp 66)) ?_
       refine wpList_store_rowA rfl 38 (.tmp 2) (.tmp 66) rfl (w.heap.size + 1) #[.int .u8 0, .int .u8 0, .int .u8 0, .int .u8 0, .int .i64 0] rfl rfl 38 _ (blockN ((Chg.refl Non _).alloc _) HB2.out) info_ins rfl (by simp [Value.oneCell']) ?_
       intro W hgW hbW
       have HBW := Lib.hid hbW
       have HGW := Lib.hid hgW
       clear hbW hgW))
  exact bodyPost_ret (results_ct Tryz.results16 _ _ (w.heap.size + 1) 38 _ (0, 0) _ (.int .i64 190) rfl rfl HBW.out Tryz.underlying38 rfl info_ins) rfl ⟨rfl, ((HG2.out).alloc _).then_new HGW.out (fun x e => by omega)⟩

set_option maxRecDepth 100000 in
set_option maxHeartbeats 1000000 in
theorem Decode_x0 (p q r s : Nat) (w : World) (hp : p < 256) (hq : q < 256) (hr : r < 256) (hs : s < 256) (hw : ¬ 255 < (opAt p).n) (hn : ¬ 0 < (opAt p).n) (ho : okB p = false) (hm : mayB (decI p q r s) = false) :
    Calls Tryz.prog 16 #[.agg #[.int .u8 p, .int .u8 q, .int .u8 r, .int .u8 s]] w fun e w' => e = .returned (.tuple #[.agg #[.int .u8 0, .int .u8 0, .int .u8 0, .int .u8 0, .int .i64 0], .int .i64 190]) ∧ Chg Non w w' := by
  have HE := Lib.hid (fun w => Encode_no (decI p q r s) w hm)
  rw [dec_n p q r s hw hn] at HE
  clear hm
  have HO := Lib.hid (fun w => of_any p w)
  rw [ho] at HO
  clear ho
  obtain ⟨F, hF⟩ : ∃ F, opAt p = F := ⟨_, rfl⟩
  rw [hF] at hw HO hn
  clear hF
  have hop : opC F = #[.string ⟨F.name.toArray⟩, .bool F.a, .bool F.b, .bool F.c, .int .i64 F.n] := rfl
  rw [hop] at HO
  clear hop
  have e1 : decide ((F.n : Int) > 255) = false := by simp; omega
  have e2 : decide ((F.n : Int) > 0) = false := by simp; omega
  clear hp hq
  go_enter Tryz.func16, Tryz.ntmps16
  go_wp2_with fail
  refine (HO.out _).mono ?_
  rintro e w' ⟨rfl, hg⟩
  have HG : Hid (Chg Non w w') := Lib.hid ((((Chg.refl Non w).alloc _).alloc _).then_non hg)
  have HB := Lib.hid (enc_blk hg)
  have HC : Hid (Cells4 w' w.heap.size _ _ _ _) := Lib.hid (cells4 w w' _ _ _ _ _ (((Chg.refl Non _).alloc _).then_non hg))
  obtain ⟨hz, c0, c1, c2, c3⟩ := HC.out
  clear hg
  go_wp2_with fail
  refine (HE.out _).mono ?_
  rintro e w2 ⟨rfl, hg⟩
  have HZ2 := Lib.hid (z_lt (((Chg.refl Non _).alloc _).alloc _) hg hz)
  have HX := Lib.hid (dec_blk hg)
  have HG2 : Hid (Chg Non w w2) := Lib.hid ((((HG.out).alloc _).alloc _).then_non hg)
  have HB2 := Lib.hid (blockN ((((Chg.refl Non _).alloc _).alloc _).then_non hg) HB.out)
  clear hz c0 c1 c2 c3
  obtain ⟨hz, c0, c1, c2, c3⟩ := HC.out.non ((((Chg.refl Non _).alloc _).alloc _).then_non hg)
  obtain ⟨hz5, x0, x1, x2, x3, x4⟩ := HX.out
  have hzz := HZ2.out
  clear hg
  go_wp2_with (first
    | (refine sel none (.store 38 (.tmp 2) (.tmp 66)) ?_
       refine wpList_store_rowA rfl 38 (.tmp 2) (.tmp 66) rfl (w.heap.size + 1) #[.int .u8 0, .int .u8 0, .int .u8 0, .int .u8 0, .int .i64 0] rfl rfl 38 _ (blockN ((Chg.refl Non _).alloc _) HB2.out) info_ins rfl (by simp [Value.oneCell']) ?_
       intro W hgW hbW
       have HBW := Lib.hid hbW
       have HGW := Lib.hid hgW
       clear hbW hgW))
  exact bodyPost_ret (results_ct Tryz.results16 _ _ (w.heap.size + 1) 38 _ (0, 0) _ (.int .i64 190) rfl rfl HBW.out Tryz.underlying38 rfl info_ins) rfl ⟨rfl, ((HG2.out).alloc _).then_new HGW.out (fun x e => by omega)⟩

theorem ok_of_n (p : Nat) (h : 0 < (opAt p).n) : okB p = true := by
  by_cases h1 : 22 ≤ p
  · rw [opAt_big p h1] at h; cases h
  · by_cases h2 : p = 0
    · subst h2; cases h
    · simp [okB]; omega
theorem Decode_ok (p q r s : Nat) (w : World) (hp : p < 256) (hq : q < 256) (hr : r < 256) (hs : s < 256) (hm : mayB (decI p q r s) = true) :
    Calls Tryz.prog 16 #[.agg #[.int .u8 p, .int .u8 q, .int .u8 r, .int .u8 s]] w fun e w' => e = .returned (.tuple #[.agg (insC (decI p q r s)), .int .i64 0]) ∧ Chg Non w w' := by
  have ho : okB p = true := by
    have := ((mayB_iff _).1 hm).1
    rw [dec_op] at this
    simp [okB, this.1, this.2]
  by_cases hw : 255 < (opAt p).n
  · exact Decode_w1 p q r s w hp hq hr hs hw ho hm
  · by_cases hn : 0 < (opAt p).n
    · exact Decode_s1 p q r s w hp hq hr hs hw hn ho hm
    · exact Decode_n1 p q r s w hp hq hr hs hw hn ho hm
theorem Decode_no (p q r s : Nat) (w : World) (hp : p < 256) (hq : q < 256) (hr : r < 256) (hs : s < 256) (hm : mayB (decI p q r s) = false) :
    Calls Tryz.prog 16 #[.agg #[.int .u8 p, .int .u8 q, .int .u8 r, .int .u8 s]] w fun e w' => e = .returned (.tuple #[.agg (insC Ins.zero), .int .i64 190]) ∧ Chg Non w w' := by
  by_cases hw : 255 < (opAt p).n
  · exact Decode_w0 p q r s w hp hq hr hs hw (ok_of_n p (by omega)) hm
  · by_cases hn : 0 < (opAt p).n
    · exact Decode_s0 p q r s w hp hq hr hs hw hn (ok_of_n p (by omega)) hm
    · cases ho : okB p with
      | true => exact Decode_n0 p q r s w hp hq hr hs hw hn ho hm
      | false => exact Decode_x0 p q r s w hp hq hr hs hw hn ho hm
end Go.Proofs.YtpcmnphohneddaaGreatDoor
