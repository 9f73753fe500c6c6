/- Commit records: the chapter's examples (awake). -/
import Derived.Test.YthhbdejagglgbaaGreatRecL
namespace Go.Proofs.YthhbdejagglgbaaGreat
open Go.RowKit
set_option linter.unusedVariables false

def rOne : Rec := ⟨1, 0, 5, false, zTag⟩
def rTwo : Rec := ⟨2, 1, 7, true, zTag⟩
theorem neq_same (a : Rec) (h : a.Bd) (w : World) : (binOp .neq 25 (.agg (recA a)) (.agg (recA a))).run Tryz.prog w = .ok (.bool false) w := by
  obtain ⟨q, hq, hr⟩ := eq_rec a a h h
  have : q = true := hq.2 rfl
  subst this
  exact (hr w).2
theorem one_bd : rOne.Bd := ⟨zTag_len, by simp [rOne], by simp [rOne], by simp [rOne]⟩
theorem two_bd : rTwo.Bd := ⟨zTag_len, by simp [rTwo], by simp [rTwo], by simp [rTwo]⟩
theorem tell_00 : cTell Rec.zero Rec.zero = (Rec.zero, Rec.zero, 160) := by decide +kernel
theorem tell_01 : cTell Rec.zero rOne = (rOne, Rec.zero, 0) := by decide +kernel
theorem tell_21 : cTell rTwo rOne = (rTwo, rOne, 0) := by decide +kernel

set_option maxRecDepth 100000 in
set_option maxHeartbeats 4000000 in
theorem cawake_ok (w : World) : Calls Tryz.prog 11 #[] w fun e w' => e = .returned (.bool true) ∧ Chg Non w w' := by
  have HN := Lib.hid (keptC_new w w 3 (by omega) (by omega) (Chg.refl _ _))
  go_enter Tryz.func11, Tryz.ntmps11
  go_wp2_with fail
  refine HN.out.mono ?_
  rintro e w1 ⟨pd, ps, pm, rfl, k1, _⟩
  have K1 := Lib.hid k1
  have hlt := k1.lt
  clear k1
  go_wp2_with (first
    | (refine sel (some 26) (.build 25 #[(0, .const (.int .i64 1)), (2, .const (.int .i64 5))]) ?_
       refine wpList_pureW (some 26) (.agg (recA rOne)) rfl (by kernel_rfl) (by kernel_rfl) ?_)
    | (refine sel (some 27) (.build 25 #[(0, .const (.int .i64 2)), (1, .const (.int .i64 1)), (2, .const (.int .i64 7)), (3, .const (.bool true))]) ?_
       refine wpList_pureW (some 27) (.agg (recA rTwo)) rfl (by kernel_rfl) (by kernel_rfl) ?_)
    | (refine sel none (.store 25 (.tmp 3) (.tmp 26)) ?_
       refine wpList_store_rowA rfl 25 (.tmp 3) (.tmp 26) rfl w1.heap.size (recA rOne) rfl rfl 25 _ (heap_alloc2_old _ _ _) (by rw [recA_size _ (by rfl)]; exact info_rec) (by rw [recA_size _ (by rfl)]; rfl) (recA_one _) ?_
       intro v11 hg1 hb1
       have HT11 : Hid (Two w1.heap.size (w1.heap.size + 1) (recA rOne) recZ v11) := Lib.hid ⟨hb1, (hg1.block (w1.heap.size + 1) (by simp) (by omega)).trans (heap_alloc2_new _ _ _)⟩
       have HG11 := Lib.hid ((((Chg.refl Non w1).alloc _).alloc _).then_new hg1 (fun x e => by omega))
       clear hg1 hb1)
    | (refine sel none (.store 25 (.tmp 4) (.tmp 27)) ?_
       refine wpList_store_rowA rfl 25 (.tmp 4) (.tmp 27) rfl (w1.heap.size + 1) (recA rTwo) rfl rfl 25 _ HT11.out.2 (by rw [recA_size _ (by rfl)]; exact info_rec) (by rw [recA_size _ (by rfl)]; rfl) (recA_one _) ?_
       intro v1 hg2 hb2
       have HT1 := Lib.hid (HT11.out.put2 (by omega) hg2 hb2)
       have HG1 := Lib.hid (HG11.out.then_new hg2 (fun x e => by omega))
       clear hg2 hb2
       have KC := Lib.hid (K1.out.non HG1.out)
       have hz1 := HG1.out.size)
    | (go_at_call 9
       refine (keptC_get KC.out).mono ?_
       rw [tell_00]
       rintro e w2 ⟨rfl, k, hg⟩
       have KC := Lib.hid k
       have HT1 := Lib.hid (twoKeep HT1.out hg.of_non hlt (by omega) (by omega))
       have hz := hg.size
       have hw2 : w1.heap.size ≤ w2.heap.size := by omega
       clear k hg hz)
    | (refine sel none (.store 25 (.tmp 5) (.tmp 31)) ?_
       refine wpList_store_rowA rfl 25 (.tmp 5) (.tmp 31) rfl w2.heap.size (recA Rec.zero) rfl rfl 25 _ (heap_alloc2_old _ _ _) (by rw [recA_size _ (by rfl)]; exact info_rec) (by rw [recA_size _ (by rfl)]; rfl) (recA_one _) ?_
       intro v21 hg1 hb1
       have HT21 : Hid (Two w2.heap.size (w2.heap.size + 1) (recA Rec.zero) recZ v21) := Lib.hid ⟨hb1, (hg1.block (w2.heap.size + 1) (by simp) (by omega)).trans (heap_alloc2_new _ _ _)⟩
       have HG21 := Lib.hid ((((Chg.refl Non w2).alloc _).alloc _).then_new hg1 (fun x e => by omega))
       clear hg1 hb1)
    | (refine sel none (.store 25 (.tmp 6) (.tmp 32)) ?_
       refine wpList_store_rowA rfl 25 (.tmp 6) (.tmp 32) rfl (w2.heap.size + 1) (recA Rec.zero) rfl rfl 25 _ HT21.out.2 (by rw [recA_size _ (by rfl)]; exact info_rec) (by rw [recA_size _ (by rfl)]; rfl) (recA_one _) ?_
       intro v2 hg2 hb2
       have HT2 := Lib.hid (HT21.out.put2 (by omega) hg2 hb2)
       have HG2 := Lib.hid (HG21.out.then_new hg2 (fun x e => by omega))
       clear hg2 hb2
       have HT1 := Lib.hid (twoKeep HT1.out HG2.out.of_non hlt (by omega) (by omega))
       have KC := Lib.hid (KC.out.non HG2.out)
       have hz2 := HG2.out.size
       have hv2 : w1.heap.size ≤ v2.heap.size := by omega)
    | (refine sel (some 35) (.load 25 (.tmp 3)) ?_
       refine wpList_loadW (some 35) 25 (.tmp 3) w1.heap.size 0 (recA rOne) _ rfl rfl (by kernel_rfl) (by kernel_rfl) HT1.out.left Tryz.underlying25 rfl (by rw [recA_size _ (by rfl)]; exact info_rec) ?_))
  refine (keptC_put KC.out rOne (by decide) zTag_len (by decide)).mono ?_
  rintro e u1 ⟨rfl, k, hg⟩
  have KC : Hid (KeptC w u1 pd ps pm 3 Rec.zero rOne) := Lib.hid k
  have HT1 := Lib.hid (twoKeep HT1.out hg hlt (by omega) (by omega))
  have HT2 := Lib.hid (twoKeep HT2.out hg hlt (by omega) (by omega))
  have hz := hg.size
  have hu1 : w1.heap.size ≤ u1.heap.size := by omega
  clear k hg hz
  go_wp2_with (first
    | (go_at_call 9
       refine (keptC_get KC.out).mono ?_
       rw [tell_01]
       rintro e w3 ⟨rfl, k, hg⟩
       have KC := Lib.hid k
       have HT1 := Lib.hid (twoKeep HT1.out hg.of_non hlt (by omega) (by omega))
       have HT2 := Lib.hid (twoKeep HT2.out hg.of_non hlt (by omega) (by omega))
       have hz := hg.size
       have hw3 : w1.heap.size ≤ w3.heap.size := by omega
       clear k hg hz)
    | (refine sel none (.store 25 (.tmp 9) (.tmp 40)) ?_
       refine wpList_store_rowA rfl 25 (.tmp 9) (.tmp 40) rfl w3.heap.size (recA rOne) rfl rfl 25 _ (heap_alloc2_old _ _ _) (by rw [recA_size _ (by rfl)]; exact info_rec) (by rw [recA_size _ (by rfl)]; rfl) (recA_one _) ?_
       intro v31 hg1 hb1
       have HT31 : Hid (Two w3.heap.size (w3.heap.size + 1) (recA rOne) recZ v31) := Lib.hid ⟨hb1, (hg1.block (w3.heap.size + 1) (by simp) (by omega)).trans (heap_alloc2_new _ _ _)⟩
       have HG31 := Lib.hid ((((Chg.refl Non w3).alloc _).alloc _).then_new hg1 (fun x e => by omega))
       clear hg1 hb1)
    | (refine sel none (.store 25 (.tmp 10) (.tmp 41)) ?_
       refine wpList_store_rowA rfl 25 (.tmp 10) (.tmp 41) rfl (w3.heap.size + 1) (recA Rec.zero) rfl rfl 25 _ HT31.out.2 (by rw [recA_size _ (by rfl)]; exact info_rec) (by rw [recA_size _ (by rfl)]; rfl) (recA_one _) ?_
       intro v3 hg2 hb2
       have HT3 := Lib.hid (HT31.out.put2 (by omega) hg2 hb2)
       have HG3 := Lib.hid (HG31.out.then_new hg2 (fun x e => by omega))
       clear hg2 hb2
       have HT1 := Lib.hid (twoKeep HT1.out HG3.out.of_non hlt (by omega) (by omega))
       have HT2 := Lib.hid (twoKeep HT2.out HG3.out.of_non hlt (by omega) (by omega))
       have KC := Lib.hid (KC.out.non HG3.out)
       have hz3 := HG3.out.size
       have hv3 : w1.heap.size ≤ v3.heap.size := by omega)
    | (refine sel (some 44) (.load 25 (.tmp 4)) ?_
       refine wpList_loadW (some 44) 25 (.tmp 4) (w1.heap.size + 1) 0 (recA rTwo) _ rfl rfl (by kernel_rfl) (by kernel_rfl) HT1.out.right Tryz.underlying25 rfl (by rw [recA_size _ (by rfl)]; exact info_rec) ?_))
  refine (keptC_put KC.out rTwo (by decide) zTag_len (by decide)).mono ?_
  rintro e u2 ⟨rfl, k, hg⟩
  have KC : Hid (KeptC w u2 pd ps pm 3 rTwo rOne) := Lib.hid k
  have HT1 := Lib.hid (twoKeep HT1.out hg hlt (by omega) (by omega))
  have HT2 := Lib.hid (twoKeep HT2.out hg hlt (by omega) (by omega))
  have HT3 := Lib.hid (twoKeep HT3.out hg hlt (by omega) (by omega))
  have hz := hg.size
  have hu2 : w1.heap.size ≤ u2.heap.size := by omega
  clear k hg hz
  have n1 := neq_same rOne one_bd
  have n2 := neq_same rTwo two_bd
  have n0 := neq_same Rec.zero zero_bd
  go_wp2_with (first
    | (go_at_call 9
       refine (keptC_get KC.out).mono ?_
       rw [tell_21]
       rintro e w4 ⟨rfl, k, hg⟩
       have KC := Lib.hid k
       have HT1 := Lib.hid (twoKeep HT1.out hg.of_non hlt (by omega) (by omega))
       have HT2 := Lib.hid (twoKeep HT2.out hg.of_non hlt (by omega) (by omega))
       have HT3 := Lib.hid (twoKeep HT3.out hg.of_non hlt (by omega) (by omega))
       have hz := hg.size
       have hw4 : w1.heap.size ≤ w4.heap.size := by omega
       clear k hg hz)
    | (refine sel none (.store 25 (.tmp 13) (.tmp 49)) ?_
       refine wpList_store_rowA rfl 25 (.tmp 13) (.tmp 49) rfl w4.heap.size (recA rTwo) rfl rfl 25 _ (heap_alloc2_old _ _ _) (by rw [recA_size _ (by rfl)]; exact info_rec) (by rw [recA_size _ (by rfl)]; rfl) (recA_one _) ?_
       intro v41 hg1 hb1
       have HT41 : Hid (Two w4.heap.size (w4.heap.size + 1) (recA rTwo) recZ v41) := Lib.hid ⟨hb1, (hg1.block (w4.heap.size + 1) (by simp) (by omega)).trans (heap_alloc2_new _ _ _)⟩
       have HG41 := Lib.hid ((((Chg.refl Non w4).alloc _).alloc _).then_new hg1 (fun x e => by omega))
       clear hg1 hb1)
    | (refine sel none (.store 25 (.tmp 14) (.tmp 50)) ?_
       refine wpList_store_rowA rfl 25 (.tmp 14) (.tmp 50) rfl (w4.heap.size + 1) (recA rOne) rfl rfl 25 _ HT41.out.2 (by rw [recA_size _ (by rfl)]; exact info_rec) (by rw [recA_size _ (by rfl)]; rfl) (recA_one _) ?_
       intro v4 hg2 hb2
       have HT4 := Lib.hid (HT41.out.put2 (by omega) hg2 hb2)
       have HG4 := Lib.hid (HG41.out.then_new hg2 (fun x e => by omega))
       clear hg2 hb2
       have HT1 := Lib.hid (twoKeep HT1.out HG4.out.of_non hlt (by omega) (by omega))
       have HT2 := Lib.hid (twoKeep HT2.out HG4.out.of_non hlt (by omega) (by omega))
       have HT3 := Lib.hid (twoKeep HT3.out HG4.out.of_non hlt (by omega) (by omega))
       have KC := Lib.hid (KC.out.non HG4.out)
       have hz4 := HG4.out.size
       have hv4 : w1.heap.size ≤ v4.heap.size := by omega)
    | (refine sel (some 59) (.load 25 (.tmp 9)) ?_
       refine wpList_loadW (some 59) 25 (.tmp 9) w3.heap.size 0 (recA rOne) _ rfl rfl (by kernel_rfl) (by kernel_rfl) HT3.out.left Tryz.underlying25 rfl (by rw [recA_size _ (by rfl)]; exact info_rec) ?_)
    | (refine sel (some 60) (.load 25 (.tmp 3)) ?_
       refine wpList_loadW (some 60) 25 (.tmp 3) w1.heap.size 0 (recA rOne) _ rfl rfl (by kernel_rfl) (by kernel_rfl) HT1.out.left Tryz.underlying25 rfl (by rw [recA_size _ (by rfl)]; exact info_rec) ?_)
    | (refine sel (some 64) (.load 25 (.tmp 10)) ?_
       refine wpList_loadW (some 64) 25 (.tmp 10) (w3.heap.size + 1) 0 (recA Rec.zero) _ rfl rfl (by kernel_rfl) (by kernel_rfl) HT3.out.right Tryz.underlying25 rfl (by rw [recA_size _ (by rfl)]; exact info_rec) ?_)
    | (refine sel (some 65) (.build 25 #[]) ?_
       refine wpList_pureW (some 65) (.agg (recA Rec.zero)) rfl (by kernel_rfl) (by kernel_rfl) ?_)
    | (refine sel (some 77) (.load 25 (.tmp 13)) ?_
       refine wpList_loadW (some 77) 25 (.tmp 13) w4.heap.size 0 (recA rTwo) _ rfl rfl (by kernel_rfl) (by kernel_rfl) HT4.out.left Tryz.underlying25 rfl (by rw [recA_size _ (by rfl)]; exact info_rec) ?_)
    | (refine sel (some 78) (.load 25 (.tmp 4)) ?_
       refine wpList_loadW (some 78) 25 (.tmp 4) (w1.heap.size + 1) 0 (recA rTwo) _ rfl rfl (by kernel_rfl) (by kernel_rfl) HT1.out.right Tryz.underlying25 rfl (by rw [recA_size _ (by rfl)]; exact info_rec) ?_)
    | (refine sel (some 82) (.load 25 (.tmp 14)) ?_
       refine wpList_loadW (some 82) 25 (.tmp 14) (w4.heap.size + 1) 0 (recA rOne) _ rfl rfl (by kernel_rfl) (by kernel_rfl) HT4.out.right Tryz.underlying25 rfl (by rw [recA_size _ (by rfl)]; exact info_rec) ?_)
    | (refine sel (some 83) (.load 25 (.tmp 3)) ?_
       refine wpList_loadW (some 83) 25 (.tmp 3) w1.heap.size 0 (recA rOne) _ rfl rfl (by kernel_rfl) (by kernel_rfl) HT1.out.left Tryz.underlying25 rfl (by rw [recA_size _ (by rfl)]; exact info_rec) ?_)
    | (refine sel (some 91) (.build 25 #[(2, .const (.int .i64 1))]) ?_
       refine wpList_pureW (some 91) (.agg (recA ⟨0, 0, 1, false, zTag⟩)) rfl (by kernel_rfl) (by kernel_rfl) ?_)
    | (refine sel (some 96) (.build 25 #[(0, .const (.int .i64 1)), (1, .const (.int .i64 2)), (2, .const (.int .i64 1))]) ?_
       refine wpList_pureW (some 96) (.agg (recA ⟨1, 2, 1, false, zTag⟩)) rfl (by kernel_rfl) (by kernel_rfl) ?_)
    | (refine sel (some 102) (.build 25 #[(0, .const (.int .i64 1))]) ?_
       refine wpList_pureW (some 102) (.agg (recA ⟨1, 0, 0, false, zTag⟩)) rfl (by kernel_rfl) (by kernel_rfl) ?_))
  refine (keptC_put_arg KC.out ⟨0, 0, 1, false, zTag⟩ (by decide) zTag_len (by decide)).mono ?_
  rintro e x5 ⟨rfl, k, hg⟩
  have KC := Lib.hid k
  clear k hg
  go_wp2_with (first
    | (refine sel (some 91) (.build 25 #[(2, .const (.int .i64 1))]) ?_
       refine wpList_pureW (some 91) (.agg (recA ⟨0, 0, 1, false, zTag⟩)) rfl (by kernel_rfl) (by kernel_rfl) ?_)
    | (refine sel (some 96) (.build 25 #[(0, .const (.int .i64 1)), (1, .const (.int .i64 2)), (2, .const (.int .i64 1))]) ?_
       refine wpList_pureW (some 96) (.agg (recA ⟨1, 2, 1, false, zTag⟩)) rfl (by kernel_rfl) (by kernel_rfl) ?_)
    | (refine sel (some 102) (.build 25 #[(0, .const (.int .i64 1))]) ?_
       refine wpList_pureW (some 102) (.agg (recA ⟨1, 0, 0, false, zTag⟩)) rfl (by kernel_rfl) (by kernel_rfl) ?_))
  refine (keptC_put_arg KC.out ⟨1, 2, 1, false, zTag⟩ (by decide) zTag_len (by decide)).mono ?_
  rintro e x6 ⟨rfl, k, hg⟩
  have KC := Lib.hid k
  clear k hg
  go_wp2_with (first
    | (refine sel (some 91) (.build 25 #[(2, .const (.int .i64 1))]) ?_
       refine wpList_pureW (some 91) (.agg (recA ⟨0, 0, 1, false, zTag⟩)) rfl (by kernel_rfl) (by kernel_rfl) ?_)
    | (refine sel (some 96) (.build 25 #[(0, .const (.int .i64 1)), (1, .const (.int .i64 2)), (2, .const (.int .i64 1))]) ?_
       refine wpList_pureW (some 96) (.agg (recA ⟨1, 2, 1, false, zTag⟩)) rfl (by kernel_rfl) (by kernel_rfl) ?_)
    | (refine sel (some 102) (.build 25 #[(0, .const (.int .i64 1))]) ?_
       refine wpList_pureW (some 102) (.agg (recA ⟨1, 0, 0, false, zTag⟩)) rfl (by kernel_rfl) (by kernel_rfl) ?_))
  refine (keptC_put_arg KC.out ⟨1, 0, 0, false, zTag⟩ (by decide) zTag_len (by decide)).mono ?_
  rintro e x7 ⟨rfl, k, hg⟩
  have KC := Lib.hid k
  clear k hg
  go_wp2
  go_ret
  exact ⟨rfl, KC.out.chg⟩
end Go.Proofs.YthhbdejagglgbaaGreat
