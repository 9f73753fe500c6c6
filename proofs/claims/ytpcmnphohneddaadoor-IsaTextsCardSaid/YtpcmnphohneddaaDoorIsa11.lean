/- Walk of citadellaw19.awake. -/
import Derived.Test.YtpcmnphohneddaaDoorIsa10
import Derived.Test.YtpcmnphohneddaaDoorIsaD
import Derived.Deep.QuietTactic
namespace Go.Proofs.YtpcmnphohneddaaDoor
open Go.RowKit
set_option linter.unusedVariables false

theorem exec_convert {P : Program} {w : World} {ev : Operand → Value} {o : Oper} (t1 t2 : TypeId) (x : Operand) (ho : o.op = .convert t1 t2 x) (v sl : Value) (hx : ev x = sl) (h : (convert t1 t2 sl).run P w = .ok v w) :
    (execOp ev o).run P w = .ok (.value v) w := by
  unfold execOp
  rw [ho]
  simp [hx, h]

theorem rd_three (w : World) (o : Obj) : RdS ((w.alloc o).alloc (.cells #[.string ⟨#[97, 100, 100, 32, 49, 32, 50, 32, 51]⟩, .string ⟨#[106, 109, 112, 32, 56]⟩, .string ⟨#[110, 111, 112]⟩] 9)) (some ⟨w.heap.size + 1, 0, none⟩) [sAdd, sJmp, sNop] := by
  have hb := heap_alloc_new (w.alloc o) (.cells #[.string ⟨#[97, 100, 100, 32, 49, 32, 50, 32, 51]⟩, .string ⟨#[106, 109, 112, 32, 56]⟩, .string ⟨#[110, 111, 112]⟩] 9)
  rw [show (w.alloc o).heap.size = w.heap.size + 1 by simp] at hb
  intro i x hx
  refine ⟨_, _, rfl, row_cell hb ?_⟩
  rcases i with _ | _ | _ | i
  · simp at hx; subst hx; rfl
  · simp at hx; subst hx; rfl
  · simp at hx; subst hx; rfl
  · simp at hx
/-- four cells of a block, known whole -/
structure Blk4 (W : World) (b : Nat) (t : TypeId) (v0 v1 v2 v3 : Value) : Prop where
  out : W.heap[b]? = some (.cells #[v0, v1, v2, v3] t (0, 0))
theorem Blk4.all {W : World} {b : Nat} {t : TypeId} {v0 v1 v2 v3 : Value} (h : Blk4 W b t v0 v1 v2 v3) :
    Cells4 W b v0 v1 v2 v3 ∧ ∀ i, W.frozen? ⟨b, i, none⟩ = false := by
  obtain ⟨h⟩ := h
  exact ⟨⟨(Array.getElem?_eq_some_iff.1 h).1, row_cell h rfl, row_cell h rfl, row_cell h rfl, row_cell h rfl⟩, fun i => frozen_of_row _ _ _ _ _ h⟩

theorem insC_zero : insC Ins.zero = #[.int .u8 0, .int .u8 0, .int .u8 0, .int .u8 0, .int .i64 0] := rfl
/-- the bytes that are none lie at b -/
def BadQ (W : World) (b : Nat) : Prop := ∀ k, k < 5 → W.cell? ⟨b, k * 4, none⟩ = some (.int .u8 (badQ k).1) ∧ W.cell? ⟨b, k * 4 + 1, none⟩ = some (.int .u8 (badQ k).2.1) ∧ W.cell? ⟨b, k * 4 + 2, none⟩ = some (.int .u8 (badQ k).2.2.1) ∧ W.cell? ⟨b, k * 4 + 3, none⟩ = some (.int .u8 (badQ k).2.2.2)
theorem BadQ.non {W W' : World} {b : Nat} (h : BadQ W b) (hg : Chg Non W W') : BadQ W' b := fun k hk => by
  obtain ⟨h1, h2, h3, h4⟩ := h k hk
  exact ⟨hg.cell_some h1 (fun e => e), hg.cell_some h2 (fun e => e), hg.cell_some h3 (fun e => e), hg.cell_some h4 (fun e => e)⟩
theorem badQ_start (w : World) : BadQ (w.alloc (.cells #[.int .u8 0, .int .u8 0, .int .u8 0, .int .u8 0, .int .u8 22, .int .u8 0, .int .u8 0, .int .u8 0, .int .u8 4, .int .u8 8, .int .u8 0, .int .u8 0, .int .u8 1, .int .u8 0, .int .u8 0, .int .u8 1, .int .u8 17, .int .u8 1, .int .u8 0, .int .u8 0] 24)) w.heap.size := by
  have hb := heap_alloc_new w (.cells #[.int .u8 0, .int .u8 0, .int .u8 0, .int .u8 0, .int .u8 22, .int .u8 0, .int .u8 0, .int .u8 0, .int .u8 4, .int .u8 8, .int .u8 0, .int .u8 0, .int .u8 1, .int .u8 0, .int .u8 0, .int .u8 1, .int .u8 17, .int .u8 1, .int .u8 0, .int .u8 0] 24)
  intro k hk
  have h' : k = 0 ∨ k = 1 ∨ k = 2 ∨ k = 3 ∨ k = 4 := by omega
  rcases h' with rfl | rfl | rfl | rfl | rfl <;> exact ⟨row_cell hb rfl, row_cell hb rfl, row_cell hb rfl, row_cell hb rfl⟩
/-- the texts that are none lie at b -/
def BadT (W : World) (b : Nat) : Prop := ∀ k, k < 4 → W.cell? ⟨b, k, none⟩ = some (.string ⟨(badT k).toArray⟩)
theorem BadT.non {W W' : World} {b : Nat} (h : BadT W b) (hg : Chg Non W W') : BadT W' b := fun k hk => hg.cell_some (h k hk) (fun e => e)
theorem badT_start (w : World) : BadT (w.alloc (.cells #[.string ⟨#[115, 101, 116, 32, 49, 32, 48, 51, 48, 48]⟩, .string ⟨#[97, 100, 100, 32, 49, 32, 50]⟩, .string ⟨#[78, 111, 112]⟩, .string ⟨#[]⟩] 9)) w.heap.size := by
  have hb := heap_alloc_new w (.cells #[.string ⟨#[115, 101, 116, 32, 49, 32, 48, 51, 48, 48]⟩, .string ⟨#[97, 100, 100, 32, 49, 32, 50]⟩, .string ⟨#[78, 111, 112]⟩, .string ⟨#[]⟩] 9)
  intro k hk
  have h' : k = 0 ∨ k = 1 ∨ k = 2 ∨ k = 3 := by omega
  rcases h' with rfl | rfl | rfl | rfl <;> exact row_cell hb rfl

set_option maxRecDepth 100000 in
set_option maxHeartbeats 4000000 in
theorem iawake_ok (w : World) (hE : Env w) :
    Calls Tryd.prog 16 #[] w fun e w' => e = .returned (.bool true) ∧ Chg Non w w' := by
  have HE := Lib.hid hE
  clear hE
  go_enter Tryd.func16, Tryd.ntmps16
  go_wp2_with fail
  refine (Encode_ok ⟨2, 1, 0, 0, 300⟩ _ (by decide +kernel)).mono ?_
  rintro e w1 ⟨rfl, hg1⟩
  have HG1 := Lib.hid hg1
  clear hg1
  have he1 : fourC (encI ⟨2, 1, 0, 0, 300⟩) = #[.int .u8 2, .int .u8 1, .int .u8 1, .int .u8 44] := rfl
  rw [he1]
  go_wp2_with fail
  refine (Parse_yes sLw ⟨15, 1, 2, 0, 255⟩ _ (HE.out.non (HG1.out.alloc _)) (by decide) p_lw).mono ?_
  rintro e w2 ⟨rfl, hg2⟩
  have HG2 : Hid (Chg Non w w2) := Lib.hid ((HG1.out.alloc _).then_non hg2)
  have HA2 := Lib.hid (new_block hg2)
  clear hg2
  go_wp2_with fail
  refine (Encode_ok ⟨15, 1, 2, 0, 255⟩ _ (by decide +kernel)).mono ?_
  rintro e w3 ⟨rfl, hg3⟩
  have HG3 : Hid (Chg Non w w3) := Lib.hid ((HG2.out.alloc _).then_non hg3)
  have HA3 := Lib.hid (blockN (((Chg.refl Non _).alloc _).then_non hg3) HA2.out)
  clear hg3
  have he2 : fourC (encI ⟨15, 1, 2, 0, 255⟩) = #[.int .u8 15, .int .u8 1, .int .u8 2, .int .u8 255] := rfl
  rw [he2]
  go_wp2_with fail
  refine (Code_ok (some ⟨w3.heap.size + 1, 0, none⟩) 3 [sAdd, sJmp, sNop] _ (HE.out.non ((HG3.out.alloc _).alloc _)) (rd_three _ _) (by decide) (by decide)).mono ?_
  rintro e w4 ⟨hg4, hret⟩
  rw [c_three] at hret
  obtain ⟨A, cp, rfl, hrd, hc1, hc2⟩ := hret
  have HG4 : Hid (Chg Non w w4) := Lib.hid (((HG3.out.alloc _).alloc _).then_non hg4)
  have HA5 := Lib.hid (blockN ((((Chg.refl Non _).alloc _).alloc _).then_non hg4) HA3.out)
  have HB5 := Lib.hid (blockN (((Chg.refl Non _).alloc _).then_non hg4) (heap_alloc_new w3 _))
  obtain ⟨⟨az, a0, a1, a2, a3⟩, _⟩ := (Blk4.mk HA5.out).all
  obtain ⟨⟨bz, b0, b1, b2, b3⟩, _⟩ := (Blk4.mk HB5.out).all
  have HRD := Lib.hid hrd
  clear hrd hg4 he1 he2
  have n1 : ∀ W : World, (binOp .neq 24 (.agg #[.int .u8 2, .int .u8 1, .int .u8 1, .int .u8 44]) (.agg #[.int .u8 2, .int .u8 1, .int .u8 1, .int .u8 44])).run Tryd.prog W = .ok (.bool false) W := fun W => by kernel_rfl
  have n2 : ∀ W : World, (binOp .neq 24 (.agg #[.int .u8 15, .int .u8 1, .int .u8 2, .int .u8 255]) (.agg #[.int .u8 15, .int .u8 1, .int .u8 2, .int .u8 255])).run Tryd.prog W = .ok (.bool false) W := fun W => by kernel_rfl
  go_wp2_with (first
    | (refine sel (some 58) (.convert _ _ (.tmp 57)) ?_
       refine wpList_pureW (some 58) (.string ⟨#[4, 1, 2, 3, 17, 0, 0, 8, 1, 0, 0, 0]⟩) rfl (by kernel_rfl) (exec_convert 47 9 (.tmp 57) rfl _ _ rfl (str_of A _ cp _ HRD.out)) ?_)
    | (refine sel (some 60) (.convert _ _ (.tmp 59)) ?_
       refine wpList_pureW (some 60) (.string ⟨#[4, 1, 2, 3, 17, 0, 0, 8, 1, 0, 0, 0]⟩) rfl (by kernel_rfl) (exec_convert 47 9 (.tmp 59) rfl _ _ rfl (str_of (some ⟨w4.heap.size, 0, none⟩) [4, 1, 2, 3, 17, 0, 0, 8, 1, 0, 0, 0] 12 _ (own_new _ _ _ _ rfl).rd)) ?_)
    | (go_at_call 22
       refine (Text_any ⟨2, 1, 0, 0, 300⟩ _ (HE.out.non (HG4.out.alloc _))).mono ?_
       rw [t_set]
       rintro e w5 ⟨rfl, hg5⟩
       rw [mkStr_eq]
       have HG5 : Hid (Chg Non w w5) := Lib.hid ((HG4.out.alloc _).then_non hg5)
       clear hg5))
  clear n1 n2 az a0 a1 a2 a3 bz b0 b1 b2 b3 hc1 hc2
  go_loopw [10] (fun i wr => ∃ k : Nat, k ≤ 5 ∧ i = .int .i64 k ∧ Chg Non w5 wr ∧ BadQ wr w5.heap.size) (fun i _ => 5 - (intOf i).toNat)
  case atStart => exact ⟨0, Nat.zero_le _, rfl, (Chg.refl Non _).alloc _, badQ_start _⟩
  case round =>
    obtain ⟨k, hk, rfl, hg, hq⟩ := hrel
    have HG := Lib.hid hg
    have HQ := Lib.hid hq
    clear hg hq
    by_cases hlt : k < 5
    · obtain ⟨q0, q1, q2, q3⟩ := HQ.out k hlt
      obtain ⟨m1, m2, m3, m4, m5⟩ := q_bad k
      have HD := Lib.hid (fun W => Decode_no _ _ _ _ W m2 m3 m4 m5 m1)
      clear m1 m2 m3 m4 m5
      obtain ⟨p1, hp1⟩ : ∃ p, (badQ k).1 = p := ⟨_, rfl⟩
      obtain ⟨p2, hp2⟩ : ∃ p, (badQ k).2.1 = p := ⟨_, rfl⟩
      obtain ⟨p3, hp3⟩ : ∃ p, (badQ k).2.2.1 = p := ⟨_, rfl⟩
      obtain ⟨p4, hp4⟩ : ∃ p, (badQ k).2.2.2 = p := ⟨_, rfl⟩
      rw [hp1] at q0 HD
      rw [hp2] at q1 HD
      rw [hp3] at q2 HD
      rw [hp4] at q3 HD
      clear hp1 hp2 hp3 hp4
      go_wp2_with fail
      refine (HD.out _).mono ?_
      rintro e w6 ⟨rfl, hg6⟩
      rw [insC_zero]
      have HG6 := Lib.hid hg6
      clear hg6
      go_wp2_with fail
      go_roundw
      case rel => exact ⟨k + 1, by omega, by go_num, ((HG.out.then_non HG6.out).alloc _), (HQ.out.non HG6.out).non ((Chg.refl Non _).alloc _)⟩
      case measure => simp [intOf]; omega
    · have hge : decide ((k : Int) < 5) = false := by simp; omega
      clear HQ
      go_wp2_with fail
      go_loopw [14] (fun i wr2 => ∃ k : Nat, k ≤ 4 ∧ i = .int .i64 k ∧ Chg Non wr wr2 ∧ BadT wr2 wr.heap.size) (fun i _ => 4 - (intOf i).toNat)
      case atStart => exact ⟨0, Nat.zero_le _, rfl, (Chg.refl Non _).alloc _, badT_start _⟩
      case round =>
        obtain ⟨j, hj, rfl, hg, hq⟩ := hrel
        have HGj := Lib.hid hg
        have HT := Lib.hid hq
        clear hg hq
        by_cases hlt2 : j < 4
        · have q0 := HT.out j hlt2
          have HP := Lib.hid (fun W hE => Parse_none (badT j) W hE (badT_len j) (p_bad j))
          obtain ⟨tx, htx⟩ : ∃ t, badT j = t := ⟨_, rfl⟩
          rw [htx] at q0 HP
          clear htx
          go_wp2_with fail
          refine (HP.out _ (HE.out.non ((HG5.out.then_non HG.out).then_non HGj.out))).mono ?_
          rintro e w6 ⟨rfl, hg6⟩
          have HG6 := Lib.hid hg6
          clear hg6
          go_wp2_with fail
          go_roundw
          case rel => exact ⟨j + 1, by omega, by go_num, ((HGj.out.then_non HG6.out).alloc _), (HT.out.non HG6.out).non ((Chg.refl Non _).alloc _)⟩
          case measure => simp [intOf]; omega
        · have hge2 : decide ((j : Int) < 4) = false := by simp; omega
          clear HT
          go_wp2_with fail
          refine (Name_ok 20 _).mono ?_
          rintro e w7 ⟨rfl, hg7⟩
          have HG7 := Lib.hid hg7
          clear hg7
          rw [show mkStr (opAt 20).name = .string ⟨#[99, 97, 108, 108]⟩ from rfl]
          go_wp2_with fail
          refine (Name_ok 0 _).mono ?_
          rintro e w8 ⟨rfl, hg8⟩
          have HG8 := Lib.hid hg8
          clear hg8
          rw [show mkStr (opAt 0).name = .string ⟨#[]⟩ from rfl]
          go_wp2_with fail
          go_ret
          exact ⟨rfl, (((HG5.out.then_non HG.out).then_non HGj.out).then_non HG7.out).then_non HG8.out⟩
end Go.Proofs.YtpcmnphohneddaaDoor
