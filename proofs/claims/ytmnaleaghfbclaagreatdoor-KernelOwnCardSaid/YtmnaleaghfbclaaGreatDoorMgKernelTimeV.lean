/- KernelTime, part 22 of 28: contracts of the functions that it reaches, and the laws that they need, merged and shortened (from my texts XChanB, XCalD). -/
import Derived.Test.YtmnaleaghfbclaaGreatDoorMgKernelTimeA
import Derived.Test.YtmnaleaghfbclaaGreatDoorMgKernelTimeO
import Derived.Test.YtmnaleaghfbclaaGreatDoorMgKernelTimeU
namespace Go.Proofs.YtmnaleaghfbclaaGreatDoor
set_option linter.unusedVariables false
set_option linter.unusedSimpArgs false
set_option maxHeartbeats 8000000
section
open Go.RowKit
def zeroQu : Array Value := #[.int .i64 0, .int .i64 0, .int .i64 0, .int .i64 0, .int .i64 0, .slice none 0 0]
set_option maxRecDepth 100000 in
theorem put_long (J : Nat → Prop) (q : Qu) (v : Value) (A2 : Option Addr) (n c2 : Nat) (w : World) (hq : SlV (msgV J) J 1 w q.msgs v) (hmay : mayQ q = true) (hn : ¬ (n : Int) ≤ q.ch.size) :
  Calls Tryz.prog 271 #[.agg (q.L v).toArray, .slice A2 n c2] w fun e w' => e = .returned (.tuple #[.agg zeroQu, .int .i64 3]) ∧ Chg Non w w' := by
 have HM := Lib.hid (fun W (hg : Chg Non w W) => mayQueue_ok J q v W (hq.non hg (fun a vs h => msgV_non _ _ _ _ hg h)))
 obtain ⟨A, c, rfl, hc, hcm, hr⟩ := hq
 rw [hmay] at HM
 obtain ⟨⟨i, s, d, cap, sz⟩, ms⟩ := q
 simp only at hn
 have hd : decide ((n : Int) > sz) = true := by simpa using hn
 clear hr hmay
 show Calls _ _ #[.agg #[.int .i64 i, .int .i64 s, .int .i64 d, .int .i64 cap, .int .i64 sz, .slice A ms.length c], .slice A2 n c2] _ _
 replace HM : Hid (∀ W, Chg Non w W → Calls Tryz.prog 125 #[.agg #[.int .i64 i, .int .i64 s, .int .i64 d, .int .i64 cap, .int .i64 sz, .slice A ms.length c]] W fun e w' => e = .returned (.bool true) ∧ Chg Non W w') := HM
 go_enter Tryz.func271, Tryz.ntmps271
 go_wp2_with (refine sel (some 8) (.load 95 _) ?_; refine wpList_load_mid rfl 95 (.tmp 2) rfl w.heap.size 0 rfl [.int .i64 i, .int .i64 s, .int .i64 d, .int .i64 cap, .int .i64 sz, .slice A ms.length c] _ (blk_range (heap_alloc2_old w _ _)) Tryz.underlying95 rfl (by kernel_rfl) ?_)
 refine (HM.out _ (((Chg.refl Non w).alloc _).alloc _)).mono ?_
 rintro e u ⟨rfl, hg⟩
 obtain ⟨hb0, hb1, hlt, hgw⟩ := blk_call2 hg
 have HB1 := Lib.hid hb1
 have HG := Lib.hid hgw
 have f4 := blk_cell hb0 4 (v := .int .i64 sz) rfl
 clear hg hb0 hb1 hgw
 go_wp2_with (first
   | (refine sel (some 19) (.build 95 _) ?_; refine wpList_valA rfl (some 19) (.agg zeroQu) rfl (by kernel_rfl) ?_)
   | (refine sel none (.store 95 (.tmp 4) (.tmp 19)) ?_
      refine wpList_store_rowA rfl 95 (.tmp 4) (.tmp 19) rfl (w.heap.size + 1) zeroQu rfl rfl 95 _ HB1.out (by kernel_rfl) rfl (by simp [zeroQu, Value.oneCell']) ?_
      intro W hgW hbW))
 exact bodyPost_ret (res_ct Tryz.results271 _ _ (w.heap.size + 1) 95 zeroQu (0, 0) _ _ rfl rfl hbW Tryz.underlying95 rfl (by kernel_rfl)) (by kernel_rfl) ⟨rfl, HG.out.then_new hgW (fun x e => by omega)⟩
set_option maxRecDepth 100000 in
theorem put_yes (J : Nat → Prop) (q : Qu) (v : Value) (A2 : Option Addr) (m : List UInt8) (c2 : Nat) (w : World) (hq : SlV (msgV J) J 1 w q.msgs v) (hJ : ∀ b, J b → b < w.heap.size) (hm : Rd w A2 m) (hmay : mayQ q = true) (hn : (m.length : Int) ≤ q.ch.size) :
  Calls Tryz.prog 271 #[.agg (q.L v).toArray, .slice A2 m.length c2] w fun e w' => ∃ v', e = .returned (.tuple #[.agg ((putQ q m).L v').toArray, .int .i64 0]) ∧ OwnL (msgV (Exc w.heap.size v')) w.heap.size 50 1 w' v' (putQ q m).msgs ∧ Chg Non w w' := by
 have HM := Lib.hid (fun W (hg : Chg Non w W) => mayQueue_ok J q v W (hq.non hg (fun a vs h => msgV_non _ _ _ _ hg h)))
 obtain ⟨A, c, rfl, hc, hcm, hr⟩ := hq
 obtain ⟨m1, m2, m3⟩ := mayQ_iff.1 hmay
 have hcp := ch_may m1
 rw [hmay] at HM
 obtain ⟨⟨i, s, d, cap, sz⟩, ms⟩ := q
 simp only at hn m2 hcp hc hr
 have hd : decide ((m.length : Int) > sz) = false := by simp; omega
 obtain ⟨l, hl⟩ : ∃ l, (if (ms.length : Int) = cap then ms.drop 1 else ms) = l := ⟨_, rfl⟩
 have HL : Hid ((putQ ⟨⟨i, s, d, cap, sz⟩, ms⟩ m).msgs = l ++ [m]) := Lib.hid (by unfold putQ; simp only; rw [hl])
 have hll : l.length ≤ ms.length := by rw [← hl]; split <;> simp
 have HRm := Lib.hid hm
 have HR := Lib.hid hr
 unfold maxLen at hcm
 show Calls _ _ #[.agg #[.int .i64 i, .int .i64 s, .int .i64 d, .int .i64 cap, .int .i64 sz, .slice A ms.length c], .slice A2 m.length c2] _ _
 replace HM : Hid (∀ W, Chg Non w W → Calls Tryz.prog 125 #[.agg #[.int .i64 i, .int .i64 s, .int .i64 d, .int .i64 cap, .int .i64 sz, .slice A ms.length c]] W fun e w' => e = .returned (.bool true) ∧ Chg Non W w') := HM
 have HMsg := Lib.hid m3
 clear hr hmay m1 m3 hm
 go_enter Tryz.func271, Tryz.ntmps271
 go_wp2_with (refine sel (some 8) (.load 95 _) ?_; refine wpList_load_mid rfl 95 (.tmp 2) rfl w.heap.size 0 rfl [.int .i64 i, .int .i64 s, .int .i64 d, .int .i64 cap, .int .i64 sz, .slice A ms.length c] _ (blk_range (heap_alloc2_old w _ _)) Tryz.underlying95 rfl (by kernel_rfl) ?_)
 refine (HM.out _ (((Chg.refl Non w).alloc _).alloc _)).mono ?_
 rintro e u ⟨rfl, hg⟩
 obtain ⟨hb0, hb1, hlt, hgw⟩ := blk_call2 hg
 have HB0 := Lib.hid hb0
 have HB1 := Lib.hid hb1
 have HG := Lib.hid hgw
 have f4 := blk_cell hb0 4 (v := .int .i64 sz) rfl
 have f3 := blk_cell hb0 3 (v := .int .i64 cap) rfl
 have f5 := blk_cell hb0 5 (v := .slice A ms.length c) rfl
 have hus := HG.out.size
 clear hg hb0 hb1 hgw
 have HR0 := Lib.hid (HR.out.non HG.out (fun a vs h => msgV_non _ _ _ _ HG.out h))
 obtain ⟨n, hn⟩ : ∃ n, ms.length = n := ⟨_, rfl⟩
 have HN := Lib.hid hn
 rw [hn] at hc m2 hll f5 HB0
 by_cases he : (n : Int) = cap
 ·have hde : ((n : Int) == cap) = true := by simpa using he
  obtain ⟨b, o, rfl, _⟩ := HR0.out.at_ (by rw [hn]; omega)
  have hl2 : ms.drop 1 = l := by rw [← hl, if_pos (by rw [hn]; exact he)]
  have hl1 : l.length = n - 1 := by rw [← hl2, List.length_drop, hn]
  by_cases h1 : n = 1
  ·subst h1
   have hl0 : l = [] := List.eq_nil_of_length_eq_zero hl1
   have HCop := Lib.hid (copied_ok J (some ⟨b, o, none⟩) l 0 u (by rw [hl0]; exact RdL.nil _ _ _ _ _) (by omega) (by unfold maxLen; omega) (by omega))
   rw [hl1] at HCop
   clear hl he hl2 hn hl0
   go_wp2_with fail
   refine HCop.out.mono ?_
   rintro e u2 ⟨lv, rfl, hlo, hg2⟩
   have HG2 := Lib.hid (HG.out.then_non hg2)
   have HO2 := Lib.hid hlo
   have HB02 := Lib.hid (blk_keep HB0.out hg2 (fun e => e))
   have HB12 := Lib.hid (blk_keep HB1.out hg2 (fun e => e))
   have hs2 := hg2.size
   clear hlo hg2 f3 f4 f5
   go_wp2_with fail
   refine (SlClone_ok A2 m c2 u2 (HRm.out.non HG2.out) (by omega)).mono ?_
   rintro e u3 ⟨A5, c5, rfl, q1, q2, q3, hg⟩
   have HG3 := Lib.hid (HG2.out.then_non hg)
   have HO3 := Lib.hid (HO2.out.non hg (fun a vs h => h.keep hg (fun _ _ e => e)))
   have HM3 := Lib.hid q3
   have HB03 := Lib.hid (blk_keep HB02.out hg (fun e => e))
   have HB13 := Lib.hid (blk_keep HB12.out hg (fun e => e))
   have hsz3 := hg.size
   have hlt0 := blk_lt HB02.out
   have hlt1 := blk_lt HB12.out
   clear hg q3
   go_wp2_with (first
     | (refine sel (some 42) (.call _) ?_; refine Vm_stop ?_))
   refine HoleV.mk ?_
   refine wpList_snocL (msgV (fun b => Exc (w.heap.size + 2) lv b ∧ b < u3.heap.size)) rfl (.tmp 38) (.tmp 41) 79 rfl (w.heap.size + 2) 50 _ 1 24 Tryz.underlying79 info_clBy rfl (by omega) lv l rfl (((HO3.out.base (B' := w.heap.size + 2) (by omega)).mono (fun _ _ h => h.bound.mono (fun b e => ⟨⟨by have := e.1.1; omega, e.1.2⟩, e.2⟩))).non ((Chg.refl Non u3).alloc _) (fun _ _ h => h.keep ((Chg.refl Non u3).alloc _) (fun _ _ e => e))) u3.heap.size m #[.slice A5 m.length c5] 50 rfl (blk_new _ _) rfl (by simp [Value.oneCell']) (by omega) (by omega) (by simp; omega) (fun _ _ _ hg h => h.keep hg (fun b e => e.1.2)) ?_ ?_
   ·refine ⟨_, rfl, ((own_bytes HM3.out q1 q2).bound.non ((Chg.refl Non u3).alloc _)).mono (fun b e => ⟨⟨?_, fun e2 => ?_⟩, e.2⟩), by omega⟩
    ·have h1 : u2.heap.size ≤ b := e.1
     omega
    ·have h1 : u2.heap.size ≤ b := e.1
     have := (HO2.out.ge e2).2
     omega
   intro v2 w2 ho hg hv
   have hgo : ∀ x, lv.ownBlock = some x → w.heap.size + 2 ≤ x ∧ x < u2.heap.size := fun x e => by have := HO2.out.ge e; omega
   have HO4 : Hid (OwnL (msgV (Exc (w.heap.size + 2) v2)) (w.heap.size + 2) 50 1 w2 v2 (l ++ [m])) := Lib.hid (by
     refine ho.mono (fun a vs h => h.mono (fun b e => ⟨?_, fun e2 => ?_⟩))
     · exact e.1.1
     · rcases hv b e2 with e3 | e3
       · exact e.1.2 e3
       · have := e.2; simp at e3; omega)
   have HG4 : Hid (Chg Non w w2) := Lib.hid ((HG3.out.alloc _).then_new hg (fun x e => by have := hgo x e; omega))
   have HB04 := Lib.hid (blk_keep (blk_keep HB03.out ((Chg.refl Non _).alloc _) (fun e => e)) hg (fun e => by have := hgo _ e; omega))
   have HB14 := Lib.hid (blk_keep (blk_keep HB13.out ((Chg.refl Non _).alloc _) (fun e => e)) hg (fun e => by have := hgo _ e; omega))
   obtain ⟨A6, c6, hv6, hl6, hm6, _⟩ := ho.rd
   obtain ⟨n6, hn6⟩ : ∃ q, (l ++ [m]).length = q := ⟨_, rfl⟩
   rw [hn6] at hv6
   subst hv6
   have f5 := blk_cell HB04.out 5 (v := .slice (some ⟨b, o, none⟩) 1 c) rfl
   have z5 := blk_free HB04.out 5
   have hlt4 := blk_lt HB04.out
   have hlt14 := blk_lt HB14.out
   clear ho hg hv hn6 hl6
   go_wp2_with (refine sel (some 44) (.load 95 _) ?_; refine Vm_stop ?_)
   refine HoleV.mk ?_
   have hst := chg_set w2 w.heap.size 5 (.slice A6 n6 c6)
   have HB05 := Lib.hid (blk_set 5 (.slice A6 n6 c6) HB04.out)
   have HB15 := Lib.hid (blk_keep HB14.out hst (fun e => by omega))
   have HO5 := Lib.hid (HO4.out.keep hst (fun g e e2 => by have := (HO4.out.ge e).1; omega) (fun a vs h => h.keep hst (fun b e e2 => by have := e.1; omega)))
   have HG5 := Lib.hid (HG4.out.then_new hst (fun x e => by omega))
   generalize w2.setCell ⟨w.heap.size, 5, none⟩ (.slice A6 n6 c6) = w5 at HB05 HB15 HO5 HG5 ⊢
   clear hst f5 z5
   refine wpList_load_mid rfl 95 (.tmp 2) rfl w.heap.size 0 rfl [.int .i64 i, .int .i64 s, .int .i64 d, .int .i64 cap, .int .i64 sz, .slice A6 n6 c6] _ (blk_range HB05.out) Tryz.underlying95 rfl (by kernel_rfl) ?_
   go_wp2_with (refine sel none (.store 95 (.tmp 4) (.tmp 44)) ?_
                refine wpList_store_rowA rfl 95 (.tmp 4) (.tmp 44) rfl (w.heap.size + 1) #[.int .i64 i, .int .i64 s, .int .i64 d, .int .i64 cap, .int .i64 sz, .slice A6 n6 c6] rfl rfl 95 _ HB15.out (by kernel_rfl) rfl (by simp [Value.oneCell']) ?_
                intro W hgW hbW)
   refine bodyPost_ret (res_ct Tryz.results271 _ _ (w.heap.size + 1) 95 #[.int .i64 i, .int .i64 s, .int .i64 d, .int .i64 cap, .int .i64 sz, .slice A6 n6 c6] (0, 0) _ _ rfl rfl hbW Tryz.underlying95 rfl (by kernel_rfl)) (by kernel_rfl) ⟨.slice A6 n6 c6, ?_, ?_, HG5.out.then_new hgW (fun x e => by omega)⟩
   ·rfl
   ·rw [HL.out]
    exact ((HO5.out.keep hgW (fun g e e2 => by have := (HO5.out.ge e).1; omega) (fun a vs h => h.keep hgW (fun b e e2 => by have := e.1; omega))).base (by omega)).mono (fun a vs h => h.mono (fun b e => ⟨by have := e.1; omega, e.2⟩))
  ·obtain ⟨k, rfl⟩ : ∃ k, n = k + 2 := ⟨n - 2, by omega⟩
   have hl3 : l.length = k + 1 := by omega
   have HCop := Lib.hid (copied_ok J (some ⟨b, o + 1, none⟩) l (k + 1) u (by rw [← hl2]; exact HR0.out.drop 1) (by omega) (by unfold maxLen; omega) (by omega))
   rw [hl3] at HCop
   clear hl he hl2 hn h1
   go_wp2_with fail
   refine HCop.out.mono ?_
   rintro e u2 ⟨lv, rfl, hlo, hg2⟩
   have HG2 := Lib.hid (HG.out.then_non hg2)
   have HO2 := Lib.hid hlo
   have HB02 := Lib.hid (blk_keep HB0.out hg2 (fun e => e))
   have HB12 := Lib.hid (blk_keep HB1.out hg2 (fun e => e))
   have hs2 := hg2.size
   clear hlo hg2 f3 f4 f5
   go_wp2_with fail
   refine (SlClone_ok A2 m c2 u2 (HRm.out.non HG2.out) (by omega)).mono ?_
   rintro e u3 ⟨A5, c5, rfl, q1, q2, q3, hg⟩
   have HG3 := Lib.hid (HG2.out.then_non hg)
   have HO3 := Lib.hid (HO2.out.non hg (fun a vs h => h.keep hg (fun _ _ e => e)))
   have HM3 := Lib.hid q3
   have HB03 := Lib.hid (blk_keep HB02.out hg (fun e => e))
   have HB13 := Lib.hid (blk_keep HB12.out hg (fun e => e))
   have hsz3 := hg.size
   have hlt0 := blk_lt HB02.out
   have hlt1 := blk_lt HB12.out
   clear hg q3
   go_wp2_with (first
     | (refine sel (some 42) (.call _) ?_; refine Vm_stop ?_))
   refine HoleV.mk ?_
   refine wpList_snocL (msgV (fun b => Exc (w.heap.size + 2) lv b ∧ b < u3.heap.size)) rfl (.tmp 38) (.tmp 41) 79 rfl (w.heap.size + 2) 50 _ 1 24 Tryz.underlying79 info_clBy rfl (by omega) lv l rfl (((HO3.out.base (B' := w.heap.size + 2) (by omega)).mono (fun _ _ h => h.bound.mono (fun b e => ⟨⟨by have := e.1.1; omega, e.1.2⟩, e.2⟩))).non ((Chg.refl Non u3).alloc _) (fun _ _ h => h.keep ((Chg.refl Non u3).alloc _) (fun _ _ e => e))) u3.heap.size m #[.slice A5 m.length c5] 50 rfl (blk_new _ _) rfl (by simp [Value.oneCell']) (by omega) (by omega) (by simp; omega) (fun _ _ _ hg h => h.keep hg (fun b e => e.1.2)) ?_ ?_
   ·refine ⟨_, rfl, ((own_bytes HM3.out q1 q2).bound.non ((Chg.refl Non u3).alloc _)).mono (fun b e => ⟨⟨?_, fun e2 => ?_⟩, e.2⟩), by omega⟩
    ·have h1 : u2.heap.size ≤ b := e.1
     omega
    ·have h1 : u2.heap.size ≤ b := e.1
     have := (HO2.out.ge e2).2
     omega
   intro v2 w2 ho hg hv
   have hgo : ∀ x, lv.ownBlock = some x → w.heap.size + 2 ≤ x ∧ x < u2.heap.size := fun x e => by have := HO2.out.ge e; omega
   have HO4 : Hid (OwnL (msgV (Exc (w.heap.size + 2) v2)) (w.heap.size + 2) 50 1 w2 v2 (l ++ [m])) := Lib.hid (by
     refine ho.mono (fun a vs h => h.mono (fun b e => ⟨?_, fun e2 => ?_⟩))
     · exact e.1.1
     · rcases hv b e2 with e3 | e3
       · exact e.1.2 e3
       · have := e.2; simp at e3; omega)
   have HG4 : Hid (Chg Non w w2) := Lib.hid ((HG3.out.alloc _).then_new hg (fun x e => by have := hgo x e; omega))
   have HB04 := Lib.hid (blk_keep (blk_keep HB03.out ((Chg.refl Non _).alloc _) (fun e => e)) hg (fun e => by have := hgo _ e; omega))
   have HB14 := Lib.hid (blk_keep (blk_keep HB13.out ((Chg.refl Non _).alloc _) (fun e => e)) hg (fun e => by have := hgo _ e; omega))
   obtain ⟨A6, c6, hv6, hl6, hm6, _⟩ := ho.rd
   obtain ⟨n6, hn6⟩ : ∃ q, (l ++ [m]).length = q := ⟨_, rfl⟩
   rw [hn6] at hv6
   subst hv6
   have f5 := blk_cell HB04.out 5 (v := .slice (some ⟨b, o, none⟩) (k + 2) c) rfl
   have z5 := blk_free HB04.out 5
   have hlt4 := blk_lt HB04.out
   have hlt14 := blk_lt HB14.out
   clear ho hg hv hn6 hl6
   go_wp2_with (refine sel (some 44) (.load 95 _) ?_; refine Vm_stop ?_)
   refine HoleV.mk ?_
   have hst := chg_set w2 w.heap.size 5 (.slice A6 n6 c6)
   have HB05 := Lib.hid (blk_set 5 (.slice A6 n6 c6) HB04.out)
   have HB15 := Lib.hid (blk_keep HB14.out hst (fun e => by omega))
   have HO5 := Lib.hid (HO4.out.keep hst (fun g e e2 => by have := (HO4.out.ge e).1; omega) (fun a vs h => h.keep hst (fun b e e2 => by have := e.1; omega)))
   have HG5 := Lib.hid (HG4.out.then_new hst (fun x e => by omega))
   generalize w2.setCell ⟨w.heap.size, 5, none⟩ (.slice A6 n6 c6) = w5 at HB05 HB15 HO5 HG5 ⊢
   clear hst f5 z5
   refine wpList_load_mid rfl 95 (.tmp 2) rfl w.heap.size 0 rfl [.int .i64 i, .int .i64 s, .int .i64 d, .int .i64 cap, .int .i64 sz, .slice A6 n6 c6] _ (blk_range HB05.out) Tryz.underlying95 rfl (by kernel_rfl) ?_
   go_wp2_with (refine sel none (.store 95 (.tmp 4) (.tmp 44)) ?_
                refine wpList_store_rowA rfl 95 (.tmp 4) (.tmp 44) rfl (w.heap.size + 1) #[.int .i64 i, .int .i64 s, .int .i64 d, .int .i64 cap, .int .i64 sz, .slice A6 n6 c6] rfl rfl 95 _ HB15.out (by kernel_rfl) rfl (by simp [Value.oneCell']) ?_
                intro W hgW hbW)
   refine bodyPost_ret (res_ct Tryz.results271 _ _ (w.heap.size + 1) 95 #[.int .i64 i, .int .i64 s, .int .i64 d, .int .i64 cap, .int .i64 sz, .slice A6 n6 c6] (0, 0) _ _ rfl rfl hbW Tryz.underlying95 rfl (by kernel_rfl)) (by kernel_rfl) ⟨.slice A6 n6 c6, ?_, ?_, HG5.out.then_new hgW (fun x e => by omega)⟩
   ·rfl
   ·rw [HL.out]
    exact ((HO5.out.keep hgW (fun g e e2 => by have := (HO5.out.ge e).1; omega) (fun a vs h => h.keep hgW (fun b e e2 => by have := e.1; omega))).base (by omega)).mono (fun a vs h => h.mono (fun b e => ⟨by have := e.1; omega, e.2⟩))
 ·have hde : ((n : Int) == cap) = false := by simpa using he
  have hl2 : ms = l := by rw [← hl, if_neg (by rw [hn]; exact he)]
  have hl1 : l.length = n := by rw [← hl2, hn]
  have HCop := Lib.hid (copied_ok J A l n u (by rw [← hl2]; exact HR0.out) (by omega) (by unfold maxLen; omega) (by omega))
  rw [hl1] at HCop
  clear hl he hl2 hn
  go_wp2_with fail
  refine HCop.out.mono ?_
  rintro e u2 ⟨lv, rfl, hlo, hg2⟩
  have HG2 := Lib.hid (HG.out.then_non hg2)
  have HO2 := Lib.hid hlo
  have HB02 := Lib.hid (blk_keep HB0.out hg2 (fun e => e))
  have HB12 := Lib.hid (blk_keep HB1.out hg2 (fun e => e))
  have hs2 := hg2.size
  clear hlo hg2 f3 f4 f5
  go_wp2_with fail
  refine (SlClone_ok A2 m c2 u2 (HRm.out.non HG2.out) (by omega)).mono ?_
  rintro e u3 ⟨A5, c5, rfl, q1, q2, q3, hg⟩
  have HG3 := Lib.hid (HG2.out.then_non hg)
  have HO3 := Lib.hid (HO2.out.non hg (fun a vs h => h.keep hg (fun _ _ e => e)))
  have HM3 := Lib.hid q3
  have HB03 := Lib.hid (blk_keep HB02.out hg (fun e => e))
  have HB13 := Lib.hid (blk_keep HB12.out hg (fun e => e))
  have hsz3 := hg.size
  have hlt0 := blk_lt HB02.out
  have hlt1 := blk_lt HB12.out
  clear hg q3
  go_wp2_with (first
    | (refine sel (some 42) (.call _) ?_; refine Vm_stop ?_))
  refine HoleV.mk ?_
  refine wpList_snocL (msgV (fun b => Exc (w.heap.size + 2) lv b ∧ b < u3.heap.size)) rfl (.tmp 38) (.tmp 41) 79 rfl (w.heap.size + 2) 50 _ 1 24 Tryz.underlying79 info_clBy rfl (by omega) lv l rfl (((HO3.out.base (B' := w.heap.size + 2) (by omega)).mono (fun _ _ h => h.bound.mono (fun b e => ⟨⟨by have := e.1.1; omega, e.1.2⟩, e.2⟩))).non ((Chg.refl Non u3).alloc _) (fun _ _ h => h.keep ((Chg.refl Non u3).alloc _) (fun _ _ e => e))) u3.heap.size m #[.slice A5 m.length c5] 50 rfl (blk_new _ _) rfl (by simp [Value.oneCell']) (by omega) (by omega) (by simp; omega) (fun _ _ _ hg h => h.keep hg (fun b e => e.1.2)) ?_ ?_
  ·refine ⟨_, rfl, ((own_bytes HM3.out q1 q2).bound.non ((Chg.refl Non u3).alloc _)).mono (fun b e => ⟨⟨?_, fun e2 => ?_⟩, e.2⟩), by omega⟩
   ·have h1 : u2.heap.size ≤ b := e.1
    omega
   ·have h1 : u2.heap.size ≤ b := e.1
    have := (HO2.out.ge e2).2
    omega
  intro v2 w2 ho hg hv
  have hgo : ∀ x, lv.ownBlock = some x → w.heap.size + 2 ≤ x ∧ x < u2.heap.size := fun x e => by have := HO2.out.ge e; omega
  have HO4 : Hid (OwnL (msgV (Exc (w.heap.size + 2) v2)) (w.heap.size + 2) 50 1 w2 v2 (l ++ [m])) := Lib.hid (by
    refine ho.mono (fun a vs h => h.mono (fun b e => ⟨?_, fun e2 => ?_⟩))
    · exact e.1.1
    · rcases hv b e2 with e3 | e3
      · exact e.1.2 e3
      · have := e.2; simp at e3; omega)
  have HG4 : Hid (Chg Non w w2) := Lib.hid ((HG3.out.alloc _).then_new hg (fun x e => by have := hgo x e; omega))
  have HB04 := Lib.hid (blk_keep (blk_keep HB03.out ((Chg.refl Non _).alloc _) (fun e => e)) hg (fun e => by have := hgo _ e; omega))
  have HB14 := Lib.hid (blk_keep (blk_keep HB13.out ((Chg.refl Non _).alloc _) (fun e => e)) hg (fun e => by have := hgo _ e; omega))
  obtain ⟨A6, c6, hv6, hl6, hm6, _⟩ := ho.rd
  obtain ⟨n6, hn6⟩ : ∃ q, (l ++ [m]).length = q := ⟨_, rfl⟩
  rw [hn6] at hv6
  subst hv6
  have f5 := blk_cell HB04.out 5 (v := .slice A n c) rfl
  have z5 := blk_free HB04.out 5
  have hlt4 := blk_lt HB04.out
  have hlt14 := blk_lt HB14.out
  clear ho hg hv hn6 hl6
  go_wp2_with (refine sel (some 44) (.load 95 _) ?_; refine Vm_stop ?_)
  refine HoleV.mk ?_
  have hst := chg_set w2 w.heap.size 5 (.slice A6 n6 c6)
  have HB05 := Lib.hid (blk_set 5 (.slice A6 n6 c6) HB04.out)
  have HB15 := Lib.hid (blk_keep HB14.out hst (fun e => by omega))
  have HO5 := Lib.hid (HO4.out.keep hst (fun g e e2 => by have := (HO4.out.ge e).1; omega) (fun a vs h => h.keep hst (fun b e e2 => by have := e.1; omega)))
  have HG5 := Lib.hid (HG4.out.then_new hst (fun x e => by omega))
  generalize w2.setCell ⟨w.heap.size, 5, none⟩ (.slice A6 n6 c6) = w5 at HB05 HB15 HO5 HG5 ⊢
  clear hst f5 z5
  refine wpList_load_mid rfl 95 (.tmp 2) rfl w.heap.size 0 rfl [.int .i64 i, .int .i64 s, .int .i64 d, .int .i64 cap, .int .i64 sz, .slice A6 n6 c6] _ (blk_range HB05.out) Tryz.underlying95 rfl (by kernel_rfl) ?_
  go_wp2_with (refine sel none (.store 95 (.tmp 4) (.tmp 44)) ?_
               refine wpList_store_rowA rfl 95 (.tmp 4) (.tmp 44) rfl (w.heap.size + 1) #[.int .i64 i, .int .i64 s, .int .i64 d, .int .i64 cap, .int .i64 sz, .slice A6 n6 c6] rfl rfl 95 _ HB15.out (by kernel_rfl) rfl (by simp [Value.oneCell']) ?_
               intro W hgW hbW)
  refine bodyPost_ret (res_ct Tryz.results271 _ _ (w.heap.size + 1) 95 #[.int .i64 i, .int .i64 s, .int .i64 d, .int .i64 cap, .int .i64 sz, .slice A6 n6 c6] (0, 0) _ _ rfl rfl hbW Tryz.underlying95 rfl (by kernel_rfl)) (by kernel_rfl) ⟨.slice A6 n6 c6, ?_, ?_, HG5.out.then_new hgW (fun x e => by omega)⟩
  ·rfl
  ·rw [HL.out]
   exact ((HO5.out.keep hgW (fun g e e2 => by have := (HO5.out.ge e).1; omega) (fun a vs h => h.keep hgW (fun b e e2 => by have := e.1; omega))).base (by omega)).mono (fun a vs h => h.mono (fun b e => ⟨by have := e.1; omega, e.2⟩))
set_option maxRecDepth 100000 in
theorem take_none (J : Nat → Prop) (q : Qu) (v : Value) (w : World) (hq : SlV (msgV J) J 1 w q.msgs v) (hmay : mayQ q = true) (hn : q.msgs = []) :
  Calls Tryz.prog 272 #[.agg (q.L v).toArray] w fun e w' => e = .returned (.tuple #[.slice none 0 0, .agg zeroQu, .int .i64 100]) ∧ Chg Non w w' := by
 have HM := Lib.hid (fun W (hg : Chg Non w W) => mayQueue_ok J q v W (hq.non hg (fun a vs h => msgV_non _ _ _ _ hg h)))
 obtain ⟨A, c, rfl, hc, hcm, hr⟩ := hq
 rw [hmay] at HM
 obtain ⟨⟨i, s, d, cap, sz⟩, ms⟩ := q
 simp only at hn
 subst hn
 clear hr hmay
 show Calls _ _ #[.agg #[.int .i64 i, .int .i64 s, .int .i64 d, .int .i64 cap, .int .i64 sz, .slice A 0 c]] _ _
 replace HM : Hid (∀ W, Chg Non w W → Calls Tryz.prog 125 #[.agg #[.int .i64 i, .int .i64 s, .int .i64 d, .int .i64 cap, .int .i64 sz, .slice A 0 c]] W fun e w' => e = .returned (.bool true) ∧ Chg Non W w') := HM
 go_enter Tryz.func272, Tryz.ntmps272
 go_wp2_with (refine sel (some 7) (.load 95 _) ?_; refine wpList_load_mid rfl 95 (.tmp 1) rfl w.heap.size 0 rfl [.int .i64 i, .int .i64 s, .int .i64 d, .int .i64 cap, .int .i64 sz, .slice A 0 c] _ (blk_range (heap_alloc2_old w _ _)) Tryz.underlying95 rfl (by kernel_rfl) ?_)
 refine (HM.out _ (((Chg.refl Non w).alloc _).alloc _)).mono ?_
 rintro e u ⟨rfl, hg⟩
 obtain ⟨hb0, hb1, hlt, hgw⟩ := blk_call2 hg
 have HB1 := Lib.hid hb1
 have HG := Lib.hid hgw
 have f5 := blk_cell hb0 5 (v := .slice A 0 c) rfl
 clear hg hb0 hb1 hgw
 go_wp2_with (first
   | (refine sel (some 16) (.build 95 _) ?_; refine wpList_valA rfl (some 16) (.agg zeroQu) rfl (by kernel_rfl) ?_)
   | (refine sel none (.store 95 (.tmp 3) (.tmp 16)) ?_
      refine wpList_store_rowA rfl 95 (.tmp 3) (.tmp 16) rfl (w.heap.size + 1) zeroQu rfl rfl 95 _ HB1.out (by kernel_rfl) rfl (by simp [zeroQu, Value.oneCell']) ?_
      intro W hgW hbW))
 exact bodyPost_ret (res_tct Tryz.results272 _ _ (w.heap.size + 1) 95 zeroQu (0, 0) _ _ _ rfl rfl rfl hbW Tryz.underlying95 rfl (by kernel_rfl)) (by kernel_rfl) ⟨rfl, HG.out.then_new hgW (fun x e => by omega)⟩
theorem BytesV.keep2 {C D : Nat} {w V W : World} {g : Nat} {l : List UInt8} {v : Value} (hb : BytesV (fun b => C ≤ b) w l v) (h1 : Chg (fun b => b = g) w V) (h2 : Chg (fun b => b = g + 1) V W) (hg : D + 1 < C) (he : g = D) : BytesV (From D) W l v :=
 ((hb.keep h1 (fun b e e2 => by have : C ≤ b := e; omega)).keep h2 (fun b e e2 => by have : C ≤ b := e; omega)).mono (fun b e => by show D ≤ b; have : C ≤ b := e; omega)
theorem SlV.keep2 {C D : Nat} {w V W : World} {g : Nat} {l : List (List UInt8)} {v : Value} (hb : SlV (msgV (fun b => C ≤ b)) (fun b => C ≤ b) 1 w l v) (h1 : Chg (fun b => b = g) w V) (h2 : Chg (fun b => b = g + 1) V W) (hg : D + 1 < C) (he : g = D) : SlV (msgV (From D)) (From D) 1 W l v := by
 have k1 : ∀ b, C ≤ b → ¬ b = g := fun b e e2 => by omega
 have k2 : ∀ b, C ≤ b → ¬ b = g + 1 := fun b e e2 => by omega
 exact ((hb.keep h1 k1 (fun _ _ _ h => h.keep h1 k1)).keep h2 k2 (fun _ _ _ h => h.keep h2 k2)).mono (fun b e => by show D ≤ b; omega) (fun _ _ _ h => h.mono (fun b e => by show D ≤ b; omega))
set_option maxRecDepth 100000 in
theorem take_yes (J : Nat → Prop) (q : Qu) (v : Value) (w : World) (m : List UInt8) (rest : List (List UInt8)) (hq : SlV (msgV J) J 1 w q.msgs v) (hmay : mayQ q = true) (hmr : q.msgs = m :: rest) :
  Calls Tryz.prog 272 #[.agg (q.L v).toArray] w fun e w' => ∃ A5 c5 v', e = .returned (.tuple #[.slice A5 m.length c5, .agg (({ q with msgs := rest } : Qu).L v').toArray, .int .i64 0]) ∧ BytesV (From w.heap.size) w' m (.slice A5 m.length c5) ∧ SlV (msgV (From w.heap.size)) (From w.heap.size) 1 w' rest v' ∧ Chg Non w w' := by
 have HM := Lib.hid (fun W (hg : Chg Non w W) => mayQueue_ok J q v W (hq.non hg (fun a vs h => msgV_non _ _ _ _ hg h)))
 obtain ⟨A, c, rfl, hc, hcm, hr⟩ := hq
 have hcap := (mayQ_iff.1 hmay)
 have hcp := ch_may hcap.1
 have hml := hcap.2.1
 rw [hmay] at HM
 obtain ⟨⟨i, s, d, cap, sz⟩, ms⟩ := q
 simp only at hmr hc hr hcp hml
 subst hmr
 clear hmay hcap
 unfold maxLen at hcm
 have HR := Lib.hid hr
 clear hr
 obtain ⟨n, hn⟩ : ∃ n, (m :: rest).length = n := ⟨_, rfl⟩
 have hn1 : rest.length + 1 = n := by rw [← hn]; simp
 have HRl : Hid ((m :: rest).length = n) := Lib.hid hn
 rw [hn] at hc hml HM
 show Calls _ _ #[.agg #[.int .i64 i, .int .i64 s, .int .i64 d, .int .i64 cap, .int .i64 sz, .slice A (m :: rest).length c]] _ _
 rw [hn]
 clear hn
 replace HM : Hid (∀ W, Chg Non w W → Calls Tryz.prog 125 #[.agg #[.int .i64 i, .int .i64 s, .int .i64 d, .int .i64 cap, .int .i64 sz, .slice A n c]] W fun e w' => e = .returned (.bool true) ∧ Chg Non W w') := Lib.hid (fun W hg => by have := HM.out W hg; simp only [Qu.L, HRl.out] at this; exact this)
 have hn0 : ((n : Int) == 0) = false := by simp; omega
 go_enter Tryz.func272, Tryz.ntmps272
 go_wp2_with (refine sel (some 7) (.load 95 _) ?_; refine wpList_load_mid rfl 95 (.tmp 1) rfl w.heap.size 0 rfl [.int .i64 i, .int .i64 s, .int .i64 d, .int .i64 cap, .int .i64 sz, .slice A n c] _ (blk_range (heap_alloc2_old w _ _)) Tryz.underlying95 rfl (by kernel_rfl) ?_)
 refine (HM.out _ (((Chg.refl Non w).alloc _).alloc _)).mono ?_
 rintro e u ⟨rfl, hg⟩
 obtain ⟨hb0, hb1, hlt, hgw⟩ := blk_call2 hg
 have HB0 := Lib.hid hb0
 have HB1 := Lib.hid hb1
 have HG := Lib.hid hgw
 have f5 := blk_cell hb0 5 (v := .slice A n c) rfl
 have hcop := copied_ok J A (m :: rest) c u (HR.out.non hgw (fun a vs h => msgV_non _ _ _ _ hgw h)) (by rw [HRl.out]; exact hc) (by unfold maxLen; omega) (by rw [HRl.out]; omega)
 rw [HRl.out] at hcop
 have HCop := Lib.hid hcop
 have hus := HG.out.size
 clear hg hb0 hb1 hgw hcop
 go_wp2_with fail
 refine HCop.out.mono ?_
 rintro e u2 ⟨lv, rfl, hlo, hg2⟩
 have HG2 := Lib.hid (HG.out.then_non hg2)
 have HB02 := Lib.hid (blk_keep HB0.out hg2 (fun e => e))
 have HB12 := Lib.hid (blk_keep HB1.out hg2 (fun e => e))
 have hs2 := hg2.size
 obtain ⟨gl, cap2, cur, rfl, hBl, hgb, l1, l2, l3, hat⟩ := hlo.shape (by simp)
 obtain ⟨vs, hvl, hrg, mv, rfl, hbm, _⟩ := hat 0 m rfl
 have hel0 : u2.cell? ⟨gl, 0, none⟩ = some mv := by have := hrg 0 mv rfl; simpa using this
 have HBm := Lib.hid (hbm.mono (fun b e => e.1) : BytesV (fun b => u.heap.size ≤ b) u2 m mv)
 obtain ⟨A5, c5, rfl, _, _, _, _⟩ := hbm
 have hgu2 := blk_lt hgb
 have HSl : Hid (SlV (msgV (fun b => u.heap.size ≤ b)) (fun b => u.heap.size ≤ b) 1 u2 (m :: rest) (.slice (some ⟨gl, 0, none⟩) (m :: rest).length cap2)) := Lib.hid ⟨_, _, rfl, l1, l2, (fun i a ha => by
   obtain ⟨vs, h1, h2, h3⟩ := hat i a ha
   exact ⟨gl, 0, vs, rfl, hBl, h1, by rw [Nat.zero_add]; exact h2, h3.mono (fun b e => e.1)⟩)⟩
 have f5 := blk_cell HB02.out 5 (v := .slice A n c) rfl
 have z5 := blk_free HB02.out 5
 rw [HRl.out] at l1
 have hgl2 : w.heap.size + 1 < gl := by omega
 have hus1 : w.heap.size + 1 < u.heap.size := by omega
 rw [HRl.out]
 clear hlo hg2 hat hrg hvl l3 hgb HG HB0 HB1
 by_cases h1 : n = 1
 ·subst h1
  have hr0 : rest = [] := List.eq_nil_of_length_eq_zero (by omega)
  go_wp2_with fail
  have hst := chg_set u2 w.heap.size 5 (.slice (some ⟨gl, 0, none⟩) 0 0)
  obtain ⟨V, hV⟩ : ∃ V, V = (u2.setCell ⟨w.heap.size, 5, none⟩ (.slice (some ⟨gl, 0, none⟩) 0 0)).drew := ⟨_, rfl⟩
  have hgV : Chg (fun b => b = w.heap.size) u2 V := by rw [hV]; exact hst.drew
  have HB05 : Hid (V.heap[w.heap.size]? = some (.cells #[.int .i64 i, .int .i64 s, .int .i64 d, .int .i64 cap, .int .i64 sz, .slice (some ⟨gl, 0, none⟩) 0 0] 95 (0, 0))) := Lib.hid (by rw [hV]; exact blk_set 5 _ HB02.out)
  have HB15 := Lib.hid (blk_keep HB12.out hgV (fun e => by omega))
  have hel : V.cell? ⟨gl, 0, none⟩ = some (.slice A5 m.length c5) := hgV.cell_some hel0 (fun e => by have e : gl = w.heap.size := e; omega)
  have hgln : ¬ (⟨gl, 0, none⟩ : Addr).block = w.heap.size + 1 := fun e => by have e : gl = w.heap.size + 1 := e; omega
  have HGV := Lib.hid (HG2.out.then_new hgV (fun x e => by omega))
  refine wp_region_held_drew (S := Chg (fun b => b = w.heap.size + 1) (u2.setCell ⟨w.heap.size, 5, none⟩ (.slice (some ⟨gl, 0, none⟩) 0 0)).drew) (by kernel_rfl) (Chg.refl _ _) (fun hHeld => ?_)
  clear hHeld
  rw [← hV]
  clear hV hst
  refine hp 0 27 (.slice (some ⟨gl, 0, none⟩) 1 cap2) rfl (Chg.refl _ _) ?_
  refine hp 1 28 (.pointer (some ⟨gl, 0, none⟩)) rfl (Chg.refl _ _) ?_ (he := (fun W hW => by go_simp <;> (intro h; omega)))
  refine hp 2 29 (.slice A5 m.length c5) rfl (Chg.refl _ _) ?_ (he := (fun W hW => by have hc := hW.cell_some hel hgln; go_simp))
  refine h_load 3 (some 30) 95 (.tmp 1) w.heap.size 0 #[.int .i64 i, .int .i64 s, .int .i64 d, .int .i64 cap, .int .i64 sz, .slice (some ⟨gl, 0, none⟩) 0 0] _ rfl (by kernel_rfl) (by kernel_rfl) (by kernel_rfl) (by kernel_rfl) (by kernel_rfl) (fun _ _ _ h => h) (by kernel_rfl) (by kernel_rfl) (fun W hW => range_keepS (blk_range HB05.out) hW (by omega)) Tryz.underlying95 rfl (by kernel_rfl) (Chg.refl _ _) ?_
  simp only [Act.put, sA, sB, sC]
  refine hp 4 2 (.slice A5 m.length c5) rfl (Chg.refl _ _) ?_
  refine h_store 5 95 (.tmp 3) (.tmp 30) (w.heap.size + 1) #[.int .i64 i, .int .i64 s, .int .i64 d, .int .i64 cap, .int .i64 sz, .slice (some ⟨gl, 0, none⟩) 0 0] (by kernel_rfl) rfl (by kernel_rfl) rfl rfl rfl rfl 95 ⟨_, HB15.out, rfl⟩ (by kernel_rfl) (by simp [Value.oneCell']) (fun W hg hb => hg) ?_
  intro W hgW hbW
  refine hp 6 4 (.int .i64 0) rfl hgW ?_
  refine wpAnyH_done (by kernel_rfl) ?_ _
  go_wp2_with fail
  refine bodyPost_ret (res_tct Tryz.results272 _ _ (w.heap.size + 1) 95 #[.int .i64 i, .int .i64 s, .int .i64 d, .int .i64 cap, .int .i64 sz, .slice (some ⟨gl, 0, none⟩) 0 0] (0, 0) _ _ _ rfl rfl rfl hbW Tryz.underlying95 rfl (by kernel_rfl)) rfl ⟨A5, c5, _, rfl, HBm.out.keep2 (D := w.heap.size) hgV hgW (by omega) rfl, ?_, HGV.out.then_new hgW (fun x e => by omega)⟩
  (first | rw [hr0] | skip); exact ⟨_, _, rfl, Nat.le_refl _, by unfold maxLen; omega, RdL.nil _ _ _ _ _⟩
 ·obtain ⟨k, rfl⟩ : ∃ k, n = k + 2 := ⟨n - 2, by omega⟩
  have hrl : rest.length = k + 1 := by omega
  clear h1
  go_wp2_with fail
  have hst := chg_set u2 w.heap.size 5 (.slice (some ⟨gl, 1, none⟩) (k + 1) (k + 1))
  obtain ⟨V, hV⟩ : ∃ V, V = (u2.setCell ⟨w.heap.size, 5, none⟩ (.slice (some ⟨gl, 1, none⟩) (k + 1) (k + 1))).drew := ⟨_, rfl⟩
  have hgV : Chg (fun b => b = w.heap.size) u2 V := by rw [hV]; exact hst.drew
  have HB05 : Hid (V.heap[w.heap.size]? = some (.cells #[.int .i64 i, .int .i64 s, .int .i64 d, .int .i64 cap, .int .i64 sz, .slice (some ⟨gl, 1, none⟩) (k + 1) (k + 1)] 95 (0, 0))) := Lib.hid (by rw [hV]; exact blk_set 5 _ HB02.out)
  have HB15 := Lib.hid (blk_keep HB12.out hgV (fun e => by omega))
  have hel : V.cell? ⟨gl, 0, none⟩ = some (.slice A5 m.length c5) := hgV.cell_some hel0 (fun e => by have e : gl = w.heap.size := e; omega)
  have hgln : ¬ (⟨gl, 0, none⟩ : Addr).block = w.heap.size + 1 := fun e => by have e : gl = w.heap.size + 1 := e; omega
  have HGV := Lib.hid (HG2.out.then_new hgV (fun x e => by omega))
  refine wp_region_held_drew (S := Chg (fun b => b = w.heap.size + 1) (u2.setCell ⟨w.heap.size, 5, none⟩ (.slice (some ⟨gl, 1, none⟩) (k + 1) (k + 1))).drew) (by kernel_rfl) (Chg.refl _ _) (fun hHeld => ?_)
  clear hHeld
  rw [← hV]
  clear hV hst
  refine hp 0 27 (.slice (some ⟨gl, 0, none⟩) (k + 2) cap2) rfl (Chg.refl _ _) ?_
  refine hp 1 28 (.pointer (some ⟨gl, 0, none⟩)) rfl (Chg.refl _ _) ?_ (he := (fun W hW => by go_simp <;> (intro h; omega)))
  refine hp 2 29 (.slice A5 m.length c5) rfl (Chg.refl _ _) ?_ (he := (fun W hW => by have hc := hW.cell_some hel hgln; go_simp))
  refine h_load 3 (some 30) 95 (.tmp 1) w.heap.size 0 #[.int .i64 i, .int .i64 s, .int .i64 d, .int .i64 cap, .int .i64 sz, .slice (some ⟨gl, 1, none⟩) (k + 1) (k + 1)] _ rfl (by kernel_rfl) (by kernel_rfl) (by kernel_rfl) (by kernel_rfl) (by kernel_rfl) (fun _ _ _ h => h) (by kernel_rfl) (by kernel_rfl) (fun W hW => range_keepS (blk_range HB05.out) hW (by omega)) Tryz.underlying95 rfl (by kernel_rfl) (Chg.refl _ _) ?_
  simp only [Act.put, sA, sB, sC]
  refine hp 4 2 (.slice A5 m.length c5) rfl (Chg.refl _ _) ?_
  refine h_store 5 95 (.tmp 3) (.tmp 30) (w.heap.size + 1) #[.int .i64 i, .int .i64 s, .int .i64 d, .int .i64 cap, .int .i64 sz, .slice (some ⟨gl, 1, none⟩) (k + 1) (k + 1)] (by kernel_rfl) rfl (by kernel_rfl) rfl rfl rfl rfl 95 ⟨_, HB15.out, rfl⟩ (by kernel_rfl) (by simp [Value.oneCell']) (fun W hg hb => hg) ?_
  intro W hgW hbW
  refine hp 6 4 (.int .i64 0) rfl hgW ?_
  refine wpAnyH_done (by kernel_rfl) ?_ _
  go_wp2_with fail
  refine bodyPost_ret (res_tct Tryz.results272 _ _ (w.heap.size + 1) 95 #[.int .i64 i, .int .i64 s, .int .i64 d, .int .i64 cap, .int .i64 sz, .slice (some ⟨gl, 1, none⟩) (k + 1) (k + 1)] (0, 0) _ _ _ rfl rfl rfl hbW Tryz.underlying95 rfl (by kernel_rfl)) rfl ⟨A5, c5, _, rfl, HBm.out.keep2 (D := w.heap.size) hgV hgW (by omega) rfl, ?_, HGV.out.then_new hgW (fun x e => by omega)⟩
  exact SlV.keep2 (C := u.heap.size) (w := u2) ⟨some ⟨gl, 0 + 1 * 1, none⟩, k + 1, by rw [hrl], by omega, by unfold maxLen; omega, by obtain ⟨A, c, e, _, _, hr⟩ := HSl.out; injection e with e _ _; subst e; exact hr.drop 1⟩ hgV hgW (by omega) rfl
end
section
open Go.RowKit
theorem OwnL.slv {I : Nat → Prop} {C : Nat} {ty : TypeId} {w : World} {v : Value} {l : List (List UInt8)} (h : OwnL (msgV (Exc C v)) C ty 1 w v l) (hI : ∀ b, C ≤ b → I b) : SlV (msgV I) I 1 w l v := by
 obtain ⟨A, c, e, e1, e2, e3⟩ := h.rd
 exact ⟨A, c, e, e1, e2, e3.mono (fun b e => hI b (h.ge e).1) (fun a vs _ h => h.mono (fun b e => hI b e.1))⟩
theorem wrap_i64n (n : Nat) (h : n < 4294967296) : IntKind.i64.wrap (n : Int) = (n : Int) := Go.IntWalk.i64_in _ (by omega)
theorem CalX.setQ {B : Nat} {W : World} {g : Nat} {p : Pt} {wl : Wld} {y : Bool} {m vi : Value} {vb n cap i : Nat} {q' : Qu} {us : List Value} (h : CalX B W g p wl y m (.slice (some ⟨vb, 0, none⟩) n cap) vi) (hi : i < wl.qs.length) (hus : us.length = 6) (hq : quV (calK B g (.slice (some ⟨vb, 0, none⟩) n cap)) W q' us) :
  CalX B (W.setCells vb (i * 6) us) g p { wl with qs := wl.qs.set i q' } y m (.slice (some ⟨vb, 0, none⟩) n cap) vi := by
 have hg := sCells_chg vb us (i * 6) W
 have hk : ∀ b, calK B g (.slice (some ⟨vb, 0, none⟩) n cap) b → ¬ b = vb := fun b e e2 => e.2.2 (by rw [e2]; rfl)
 refine ⟨blk_keep h.blk hg (fun e => h.hne (by rw [← e]; rfl)), h.bd, h.mem.keep hg hk, ?_, h.inp.keep hg hk, h.hB, h.hne⟩
 exact OwnL.put h.qs hi hus (fun b vs h => h.keep hg hk) (hq.keep hg hk)
def ReadP (l : List UInt8) (a n : Nat) (w : World) (v : Value) (er : Int) (w' : World) : Prop :=
 (there l a n = true ∧ er = 0 ∧ ∃ A2 c2, v = .slice A2 n c2 ∧ n ≤ c2 ∧ c2 ≤ maxLen ∧ Own w.heap.size w' A2 (cut l a n)) ∨ (there l a n = false ∧ er ≠ 0)
set_option maxRecDepth 100000 in
theorem mread_any (A : Option Addr) (l : List UInt8) (c a n : Nat) (w : World) (hr : Rd w A l) (h0 : 0 < l.length) (hc : l.length ≤ c) (hcm : c ≤ maxLen) (ha : a < 4294967296) (hn : n < 4294967296) (hll : l.length ≤ 512) :
  Calls Tryz.prog 232 #[.slice A l.length c, .int .i64 a, .int .i64 n] w fun e w' => ∃ v er, e = .returned (.tuple #[v, .int .i64 er]) ∧ ReadP l a n w v er w' ∧ Chg Non w w' := by
 cases ht : there l a n with
 | true =>
  refine (mread_ok A l c a n w hr h0 hc hcm ht).mono ?_
  rintro e w' ⟨A2, c2, rfl, q1, q2, q3, q4⟩
  exact ⟨_, _, rfl, .inl ⟨ht, rfl, A2, c2, rfl, q1, q2, q3⟩, q4⟩
 | false =>
  refine (mread_no A l c a n w ha hn (by omega) ht).mono ?_
  rintro e w' ⟨rfl, rfl⟩
  exact ⟨_, _, rfl, .inr ⟨ht, fun e => by rw [memE_there] at e; rw [e] at ht; cases ht⟩, Chg.refl _ _⟩
set_option maxRecDepth 100000 in
theorem cSend_ok (B : Nat) (W : World) (g : Nat) (p : Pt) (wl : Wld) (y : Bool) (m vq vi : Value) (hm0 : 0 < p.mem.length) (hml : p.mem.length ≤ 512) (hqm : ∀ q ∈ wl.qs, mayQ q = true) (h : CalX B W g p wl y m vq vi) :
  Calls Tryz.prog 259 #[.pointer (some ⟨g, 0, none⟩)] W (CalP B g p (sendV p wl).2 y (sendV p wl).1 W) := by
 have hB := h.hB
 obtain ⟨A, c, rfl, hc, hcm, hr, _⟩ := h.mem
 have hg1b : p.g 1 < 4294967296 := h.bd.rb 1
 have hg2b : p.g 2 < 4294967296 := h.bd.rb 2
 have HQu := Lib.hid (cQueue_ok B W g p wl y (.slice A p.mem.length c) vq vi (p.g 0) (h.bd.rb 0) h)
 have r3 : W.cell? ⟨g, 3, none⟩ = some (.int .u32 (p.g 0 : Nat)) := h.creg 0 (by omega)
 have HX := Lib.hid h
 have HBd := Lib.hid (idx_bd (qidP (p.g 0)) wl.qs)
 have HGt := Lib.hid (fun k => idx_get (p := qidP (p.g 0)) (l := wl.qs) (k := k))
 obtain ⟨j, hj⟩ : ∃ j, idxOf (qidP (p.g 0)) wl.qs = j := ⟨_, rfl⟩
 have HJ := Lib.hid hj
 rw [hj] at HBd
 simp only [hj] at HQu HGt
 clear h hr hj
 unfold maxLen at hcm
 go_enter Tryz.func259, Tryz.ntmps259
 go_wp2_with fail
 refine HQu.out.mono ?_
 rintro e u ⟨rfl, hg⟩
 have HXu := Lib.hid (HX.out.non hg)
 have HGu : Hid (Chg (From B) W u) := Lib.hid hg.of_non
 clear hg r3 HQu
 go_wp2_with fail
 refine wp_region_held_drew (S := Chg Non u.drew) (by kernel_rfl) (Chg.refl _ _) (fun hHeld => ?_)
 clear hHeld
 have HXv := Lib.hid (HXu.out.non ((Chg.refl Non u).drew))
 have HGv := Lib.hid (HGu.out.drew)
 clear HXu HGu HX
 generalize u.drew = v at HXv HGv ⊢
 have c13 : v.cell? ⟨g, 13, none⟩ = some (.slice A p.mem.length c) := HXv.out.cmem
 have r4 : v.cell? ⟨g, 4, none⟩ = some (.int .u32 (p.g 1 : Nat)) := HXv.out.creg 1 (by omega)
 have r5 : v.cell? ⟨g, 5, none⟩ = some (.int .u32 (p.g 2 : Nat)) := HXv.out.creg 2 (by omega)
 obtain ⟨_, _, hs0, _, _, hr, _⟩ := HXv.out.mem
 injection hs0 with hs0 hs1 hs2
 clear hs1
 subst hs0 hs2
 have HRd := Lib.hid (mread_any _ p.mem c (p.g 1) (p.g 2) v hr hm0 hc (by unfold maxLen; omega) hg1b hg2b hml)
 clear hr
 refine hp 0 16 (.pointer (some ⟨g, 0, none⟩)) rfl (Chg.refl _ _) ?_
 refine hp 1 17 (.pointer (some ⟨g, 0, none⟩)) rfl (Chg.refl _ _) ?_
 refine hp 2 18 (.pointer (some ⟨g, 0, none⟩)) rfl (Chg.refl _ _) ?_
 refine hp 3 19 (.pointer (some ⟨g, 13, none⟩)) rfl (Chg.refl _ _) ?_
 refine hp 4 20 (.slice A p.mem.length c) rfl (Chg.refl _ _) ?_ (he := (fun W hW => by have hc := hW.cell_some c13 (fun e => e); go_simp))
 refine hp 5 21 (.pointer (some ⟨g, 0, none⟩)) rfl (Chg.refl _ _) ?_
 refine hp 6 22 (.pointer (some ⟨g, 0, none⟩)) rfl (Chg.refl _ _) ?_
 refine hp 7 23 (.pointer (some ⟨g, 0, none⟩)) rfl (Chg.refl _ _) ?_
 refine hp 8 24 (.pointer (some ⟨g, 3, none⟩)) rfl (Chg.refl _ _) ?_
 refine hp 9 25 (.pointer (some ⟨g, 4, none⟩)) rfl (Chg.refl _ _) ?_
 refine hp 10 26 (.int .u32 (p.g 1 : Nat)) rfl (Chg.refl _ _) ?_ (he := (fun W hW => by have hc := hW.cell_some r4 (fun e => e); go_simp))
 refine hp 11 27 (.int .i64 (p.g 1 : Nat)) rfl (Chg.refl _ _) ?_ (he := (fun W hW => by go_simp; exact wrap_i64n _ hg1b))
 refine hp 12 28 (.pointer (some ⟨g, 0, none⟩)) rfl (Chg.refl _ _) ?_
 refine hp 13 29 (.pointer (some ⟨g, 0, none⟩)) rfl (Chg.refl _ _) ?_
 refine hp 14 30 (.pointer (some ⟨g, 0, none⟩)) rfl (Chg.refl _ _) ?_
 refine hp 15 31 (.pointer (some ⟨g, 3, none⟩)) rfl (Chg.refl _ _) ?_
 refine hp 16 32 (.pointer (some ⟨g, 5, none⟩)) rfl (Chg.refl _ _) ?_
 refine hp 17 33 (.int .u32 (p.g 2 : Nat)) rfl (Chg.refl _ _) ?_ (he := (fun W hW => by have hc := hW.cell_some r5 (fun e => e); go_simp))
 refine hp 18 34 (.int .i64 (p.g 2 : Nat)) rfl (Chg.refl _ _) ?_ (he := (fun W hW => by go_simp; exact wrap_i64n _ hg2b))
 refine h_one 19 (by kernel_rfl) rfl (by kernel_rfl) ?_
 intro K hK
 go_simp
 refine (HRd.out).mono ?_
 rintro e u1 ⟨mv, er, rfl, hP, hg⟩
 have HP := Lib.hid hP
 have HX1 := Lib.hid (HXv.out.non hg)
 have HG1 := Lib.hid (HGv.out.trans_same hg.of_non)
 have HV1 := Lib.hid hg
 clear hP hg c13 r4 r5
 refine hK.out _ _ HV1.out (fun _ => ?_)
 clear hK K
 try simp only [Act.put, sA, sB, sC]
 refine hp 20 15 (.tuple #[mv, .int .i64 er]) rfl HV1.out ?_
 refine hp 21 36 (mv) rfl HV1.out ?_
 refine hp 22 37 (.int .i64 er) rfl HV1.out ?_
 refine hp 23 4 (mv) rfl HV1.out ?_
 refine hp 24 5 (.int .i64 er) rfl HV1.out ?_
 refine wpAnyH_done (by kernel_rfl) ?_ _
 by_cases hj0 : j < 0
 ·have d0 : decide (j < 0) = true := by simpa using hj0
  have HE : Hid (sendV p wl = (false, wl)) := Lib.hid (sendV_none (by unfold qGet; rw [HJ.out, if_pos hj0]))
  go_wp2_with fail
  go_quiet (fail)
  go_wp2_with fail
  go_ret
  rw [HE.out]
  exact ⟨rfl, ⟨_, _, _, HX1.out.non ((Chg.refl Non _).drewN _)⟩, HG1.out.drewN _⟩
 have d0 : decide (j < 0) = false := by simpa using hj0
 obtain ⟨k, rfl⟩ : ∃ k : Nat, j = k := ⟨j.toNat, by omega⟩
 obtain ⟨q, hq, _⟩ := HGt.out k rfl
 have HQG : Hid (qGet (idxOf (qidP (p.g 0)) wl.qs) wl.qs = some q) := Lib.hid (by unfold qGet; rw [HJ.out, if_neg hj0]; exact hq)
 have hkl : k < wl.qs.length := (List.getElem?_eq_some_iff.1 hq).1
 have HSV := sendV_some HQG.out
 rw [HJ.out, Int.toNat_natCast] at HSV
 replace HSV := Lib.hid HSV
 obtain ⟨vb, cap, cur, rfl, hBv, hvb, r1, r2, r3, hat⟩ := HX1.out.qs.shape (by omega)
 obtain ⟨vs, hvl, hrg, mq, rfl, hsm, hbq, hlq⟩ := hat k q hq
 have c17 : u1.cell? ⟨g, 17, none⟩ = some (.slice (some ⟨vb, 0, none⟩) wl.qs.length cap) := HX1.out.chi 3 rfl
 have c0 : u1.cell? ⟨g, 0, none⟩ = some (.int .i64 p.id) := HX1.out.cid
 have hmq := hqm q (List.mem_of_getElem? hq)
 have HQM := Lib.hid hmq
 have hgl := HX1.out.lt
 have HRG := Lib.hid hrg
 have HSm := Lib.hid hsm
 have HBq := Lib.hid hbq
 have hki : (k : Int) < (wl.qs.length : Int) := by omega
 have c51 : u1.cell? ⟨vb, k * 6 + 1, none⟩ = some (.int .i64 q.ch.src) := hrg 1 _ rfl
 have hkc : k * 6 + 6 ≤ cur.size := by omega
 have HVB := Lib.hid hvb
 clear hat r1 r2 r3 hrg hsm hbq hvb
 rcases HP.out with ⟨ht, rfl, A3, c3, rfl, q1, q2, q3⟩ | ⟨ht, hne⟩
 ·by_cases hid : q.ch.src = p.id
  ·have hlen := cut_len (there_yes ht).2
   have hJ : Hid (SlV (msgV (fun b => calK B g (.slice (some ⟨vb, 0, none⟩) wl.qs.length cap) b ∧ b < u1.heap.size)) (fun b => calK B g (.slice (some ⟨vb, 0, none⟩) wl.qs.length cap) b ∧ b < u1.heap.size) 1 u1 q.msgs mq) := Lib.hid (SlV.bound (by omega) HSm.out (fun a vs _ h => h.bound))
   have hde : (q.ch.src == p.id) = true := by simpa using hid
   go_wp2_with fail
   go_quiet (fail)
   have hgd : Chg Non u1 (u1.drewN nq) := (Chg.refl Non u1).drewN nq
   generalize u1.drewN nq = x1 at hgd ⊢
   have HX1 := Lib.hid (HX1.out.non hgd)
   have HG1 := Lib.hid (HG1.out.trans_same (hgd.of_non : Chg (From B) u1 x1))
   have HRG := Lib.hid (range_keepS HRG.out hgd (fun e => e))
   have HVB := Lib.hid (blk_keep HVB.out hgd (fun e => e))
   have HSm := Lib.hid (HSm.out.non hgd (fun a vs h => msgV_non _ _ _ _ hgd h))
   have hJ := Lib.hid (hJ.out.non hgd (fun a vs h => msgV_non _ _ _ _ hgd h))
   have HQ3 := Lib.hid (q3.rd.non hgd)
   have hx1s := hgd.size
   have c17 : x1.cell? ⟨g, 17, none⟩ = some (.slice (some ⟨vb, 0, none⟩) wl.qs.length cap) := HX1.out.chi 3 rfl
   clear hgd q3 hde c51 c0
   by_cases hsz : (p.g 2 : Int) ≤ q.ch.size
   ·have HPut := put_yes _ q mq A3 (cut p.mem (p.g 1) (p.g 2)) c3 x1 hJ.out (fun b e => Nat.lt_of_lt_of_le e.2 hx1s) HQ3.out hmq (by rw [hlen]; exact hsz)
    rw [hlen] at HPut
    have HE : Hid (sendV p wl = (true, { wl with qs := wl.qs.set k (putQ q (cut p.mem (p.g 1) (p.g 2))) })) := Lib.hid (by rw [HSV.out, if_pos ⟨ht, hid, hsz⟩])
    have hch := ch_may (mayQ_iff.1 hmq).1
    have hpl : (putQ q (cut p.mem (p.g 1) (p.g 2))).msgs.length ≤ 140737488351232 := by
     have := mayQ_put hmq (by rw [hlen]; exact hsz : ((cut p.mem (p.g 1) (p.g 2)).length : Int) ≤ q.ch.size) hch.1
     have := (mayQ_iff.1 this).2.1
     have : (putQ q (cut p.mem (p.g 1) (p.g 2))).ch.cap = q.ch.cap := rfl
     omega
    clear hmq hJ HSV hch
    obtain ⟨⟨i, s, d, cp, sz⟩, ms⟩ := q
    simp only at hid hsz
    clear hid
    have HPut2 : Hid (Calls Tryz.prog 271 #[.agg #[.int .i64 i, .int .i64 s, .int .i64 d, .int .i64 cp, .int .i64 sz, mq], .slice A3 (p.g 2) c3] x1 fun e w' => ∃ v', e = .returned (.tuple #[.agg #[.int .i64 i, .int .i64 s, .int .i64 d, .int .i64 cp, .int .i64 sz, v'], .int .i64 0]) ∧ OwnL (msgV (Exc x1.heap.size v')) x1.heap.size 50 1 w' v' (putQ ⟨⟨i, s, d, cp, sz⟩, ms⟩ (cut p.mem (p.g 1) (p.g 2))).msgs ∧ Chg Non x1 w') := Lib.hid HPut
    clear HPut
    have hkd : decide ((k : Int) < (wl.qs.length : Int)) = true := by simpa using hki
    go_wp2_with (refine sel (some 70) (.load 95 _) ?_; refine wpList_load_mid rfl 95 (.tmp 69) rfl vb (k * 6) rfl [.int .i64 i, .int .i64 s, .int .i64 d, .int .i64 cp, .int .i64 sz, mq] _ HRG.out Tryz.underlying95 rfl (by kernel_rfl) ?_)
    refine HPut2.out.mono ?_
    rintro e u2 ⟨v2, rfl, ho2, hg2⟩
    have HX2 := Lib.hid (HX1.out.non hg2)
    have hvo : ∀ b, x1.heap.size ≤ b → (Value.slice (some ⟨vb, 0, none⟩) wl.qs.length cap).ownBlock ≠ some b := fun b e e2 => by
     have h1 : vb = b := by simpa [Value.ownBlock] using e2
     have := blk_lt HVB.out
     omega
    have HO2 : Hid (SlV (msgV (calK B g (.slice (some ⟨vb, 0, none⟩) wl.qs.length cap))) (calK B g (.slice (some ⟨vb, 0, none⟩) wl.qs.length cap)) 1 u2 (putQ ⟨⟨i, s, d, cp, sz⟩, ms⟩ (cut p.mem (p.g 1) (p.g 2))).msgs v2) := Lib.hid (ho2.slv (fun b e => ⟨by omega, by omega, fun e2 => hvo b e e2⟩))
    have HG2 := Lib.hid (HG1.out.trans_same (hg2.of_non : Chg (From B) x1 u2))
    have HVB2 := Lib.hid (blk_keep HVB.out hg2 (fun e => e))
    have hone : v2.oneCell' = true := by obtain ⟨A, c, e, _⟩ := ho2.rd; rw [e]; rfl
    have hnv : ¬ u2.heap.size = vb := fun e => by have := blk_lt HVB2.out; omega
    clear HVB c17 ho2 hg2
    have HVB := HVB2
    go_wp2_with (refine sel none (.store 95 (.tmp 6) (.tmp 73)) ?_; refine wpList_store_rowA rfl 95 (.tmp 6) (.tmp 73) rfl u2.heap.size #[.int .i64 i, .int .i64 s, .int .i64 d, .int .i64 cp, .int .i64 sz, v2] rfl rfl 95 _ (blk_new _ _) (by kernel_rfl) rfl (by simp [Value.oneCell'] ; exact hone) ?_; intro W1 hgW hbW)
    obtain ⟨V, hV⟩ : ∃ V, V = W1.drew := ⟨_, rfl⟩
    have hgV : Chg Non u2 V := by rw [hV]; exact (((Chg.refl Non u2).alloc _).then_new hgW (fun x e => by omega)).drew
    have HXV := Lib.hid (HX2.out.non hgV)
    have HgV := Lib.hid hgV
    have HB6 : Hid (V.heap[u2.heap.size]? = some (.cells #[.int .i64 i, .int .i64 s, .int .i64 d, .int .i64 cp, .int .i64 sz, v2] 95 (0, 0))) := Lib.hid (by rw [hV]; exact hbW)
    have HGB := Lib.hid (blk_keep HVB.out hgV (fun e => e))
    have HSV2 := Lib.hid (HO2.out.non hgV (fun a vs h => msgV_non _ _ _ _ hgV h))
    have HGV := Lib.hid (HG2.out.trans_same (hgV.of_non : Chg (From B) u2 V))
    have c17v : V.cell? ⟨g, 17, none⟩ = some (.slice (some ⟨vb, 0, none⟩) wl.qs.length cap) := HXV.out.chi 3 rfl
    have hgv : ¬ (⟨g, 17, none⟩ : Addr).block = vb := fun e => HXV.out.hne (by rw [show g = vb from e]; rfl)
    refine wp_region_held_drew (S := Chg (fun b => b = vb) W1.drew) (by kernel_rfl) (Chg.refl _ _) (fun hHeld => ?_)
    clear hHeld
    rw [← hV]
    clear hV hgV hgW hbW
    refine hp 0 77 (.pointer (some ⟨g, 0, none⟩)) rfl (Chg.refl _ _) ?_
    refine hp 1 78 (.pointer (some ⟨g, 0, none⟩)) rfl (Chg.refl _ _) ?_
    refine hp 2 79 (.pointer (some ⟨g, 14, none⟩)) rfl (Chg.refl _ _) ?_
    refine hp 3 80 (.pointer (some ⟨g, 17, none⟩)) rfl (Chg.refl _ _) ?_
    refine hp 4 81 (.slice (some ⟨vb, 0, none⟩) wl.qs.length cap) rfl (Chg.refl _ _) ?_ (he := (fun W hW => by have hc := hW.cell_some c17v hgv; go_simp))
    refine hp 5 82 (.int .i64 k) rfl (Chg.refl _ _) ?_
    refine h_load 6 (some 83) 95 (.tmp 6) u2.heap.size 0 #[.int .i64 i, .int .i64 s, .int .i64 d, .int .i64 cp, .int .i64 sz, v2] _ rfl (by kernel_rfl) (by kernel_rfl) (by kernel_rfl) (by kernel_rfl) (by kernel_rfl) (fun _ _ _ h => h) (by kernel_rfl) (by kernel_rfl) (fun W hW => range_keepS (blk_range HB6.out) hW hnv) Tryz.underlying95 rfl (by kernel_rfl) (Chg.refl _ _) ?_
    simp only [Act.put, sA, sB, sC]
    refine hp 7 84 (.pointer (some ⟨vb, k * 6, none⟩)) rfl (Chg.refl _ _) ?_
    refine h_one 8 (by kernel_rfl) rfl (by kernel_rfl) ?_
    intro K hK
    refine wp_store_mid 95 (.tmp 84) (.tmp 83) (by kernel_rfl) vb (k * 6) #[.int .i64 i, .int .i64 s, .int .i64 d, .int .i64 cp, .int .i64 sz, v2] (by kernel_rfl) (by kernel_rfl) (blk_there HGB.out hkc) (by kernel_rfl) (by simp [Value.oneCell']; exact hone) ?_
    refine hK.out _ _ ((Chg.refl _ _).trans_same (sCells_chg vb [.int .i64 i, .int .i64 s, .int .i64 d, .int .i64 cp, .int .i64 sz, v2] (k * 6) _)) (fun _ => ?_)
    clear hK K
    try simp only [Act.put, sA, sB, sC]
    refine wpAnyH_done (by kernel_rfl) ?_ _
    have HXF := Lib.hid (HXV.out.setQ (i := k) (q' := putQ ⟨⟨i, s, d, cp, sz⟩, ms⟩ (cut p.mem (p.g 1) (p.g 2))) (us := [.int .i64 i, .int .i64 s, .int .i64 d, .int .i64 cp, .int .i64 sz, v2]) hkl rfl ⟨v2, rfl, HSV2.out, HBq.out, hpl⟩)
    have HGF := Lib.hid (HGV.out.trans_same ((sCells_chg vb [.int .i64 i, .int .i64 s, .int .i64 d, .int .i64 cp, .int .i64 sz, v2] (k * 6) V).mono (fun x e => by show B ≤ x; omega)))
    clear c17v
    go_wp2_with fail
    go_ret
    rw [HE.out]
    exact ⟨rfl, ⟨_, _, _, HXF.out⟩, HGF.out⟩
   ·have HPut := put_long _ q mq A3 (p.g 2) c3 x1 HSm.out hmq hsz
    have HE : Hid (sendV p wl = (false, wl)) := Lib.hid (by rw [HSV.out, if_neg (fun e => hsz e.2.2)])
    clear hmq hJ HSV
    obtain ⟨⟨i, s, d, cp, sz⟩, ms⟩ := q
    simp only at hid hsz
    clear hid
    have HPut2 : Hid (Calls Tryz.prog 271 #[.agg #[.int .i64 i, .int .i64 s, .int .i64 d, .int .i64 cp, .int .i64 sz, mq], .slice A3 (p.g 2) c3] x1 fun e w' => e = .returned (.tuple #[.agg #[.int .i64 0, .int .i64 0, .int .i64 0, .int .i64 0, .int .i64 0, .slice none 0 0], .int .i64 3]) ∧ Chg Non x1 w') := Lib.hid HPut
    clear HPut
    have hkd : decide ((k : Int) < (wl.qs.length : Int)) = true := by simpa using hki
    go_wp2_with (refine sel (some 70) (.load 95 _) ?_; refine wpList_load_mid rfl 95 (.tmp 69) rfl vb (k * 6) rfl [.int .i64 i, .int .i64 s, .int .i64 d, .int .i64 cp, .int .i64 sz, mq] _ HRG.out Tryz.underlying95 rfl (by kernel_rfl) ?_)
    refine HPut2.out.mono ?_
    rintro e u2 ⟨rfl, hg2⟩
    have HX2 := Lib.hid (HX1.out.non hg2)
    have HG2 := Lib.hid (HG1.out.trans_same (hg2.of_non : Chg (From B) x1 u2))
    clear hg2 c17
    go_wp2_with (refine sel none (.store 95 (.tmp 6) (.tmp 73)) ?_; refine wpList_store_rowA rfl 95 (.tmp 6) (.tmp 73) rfl u2.heap.size #[.int .i64 0, .int .i64 0, .int .i64 0, .int .i64 0, .int .i64 0, .slice none 0 0] rfl rfl 95 _ (blk_new _ _) (by kernel_rfl) rfl (by simp [Value.oneCell']) ?_; intro W1 hgW hbW)
    go_ret
    rw [HE.out]
    have hgV : Chg Non u2 W1 := ((Chg.refl Non u2).alloc _).then_new hgW (fun x e => by omega)
    exact ⟨rfl, ⟨_, _, _, HX2.out.non hgV⟩, HG2.out.trans_same (hgV.of_non : Chg (From B) u2 W1)⟩
  ·have hde : (q.ch.src == p.id) = false := by simpa using hid
   have HE : Hid (sendV p wl = (false, wl)) := Lib.hid (by rw [HSV.out, if_neg (fun e => hid e.2.1)])
   go_wp2_with fail
   go_quiet (fail)
   go_wp2_with fail
   go_ret
   rw [HE.out]
   exact ⟨rfl, ⟨_, _, _, HX1.out.non ((Chg.refl Non _).drewN _)⟩, HG1.out.drewN _⟩
 ·have hde : (er == 0) = false := by simpa using hne
  have HE : Hid (sendV p wl = (false, wl)) := Lib.hid (by rw [HSV.out, if_neg (fun e => by rw [ht] at e; cases e.1)])
  go_wp2_with fail
  go_quiet (fail)
  go_wp2_with fail
  go_ret
  rw [HE.out]
  exact ⟨rfl, ⟨_, _, _, HX1.out.non ((Chg.refl Non _).drewN _)⟩, HG1.out.drewN _⟩
end
end Go.Proofs.YtmnaleaghfbclaaGreatDoor
