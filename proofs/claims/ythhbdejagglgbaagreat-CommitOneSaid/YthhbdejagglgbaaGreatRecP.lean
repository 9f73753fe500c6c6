/- Commit records: walks of Put, read. -/
import Derived.Test.YthhbdejagglgbaaGreatRec3
import Derived.Test.YthhbdejagglgbaaGreatRec2
namespace Go.Proofs.YthhbdejagglgbaaGreat
open Go.RowKit
set_option linter.unusedVariables false

theorem wpList_load_rec {w : World} {ops : Array Oper} {rest : List Oper} {op : Oper} {a : Act} {Q : Exit → Act → World → Prop} (hgd : op.guard = none) (x : Operand) (ho : op.op = .load 25 x)
    (b o : Nat) (hx : a.eval x = .pointer (some ⟨b, o, none⟩)) (X : Array Value) (hc : w.rangeAt b o X.toList) (hl : X.size = 36)
    (h : wpList Tryz.prog ops Q rest (a.put op.dst (.agg X)) w) : wpList Tryz.prog ops Q (op :: rest) a w :=
  wpList_load_mid hgd 25 x ho b o hx X.toList _ hc Tryz.underlying25 rfl (by rw [Array.length_toList, hl]; exact info_rec) h

theorem recRead_any (A : Option Addr) (l : List UInt8) (cap : Nat) (w : World) (hr : Rd w A l) (h64 : 64 ≤ l.length) (hl : l.length ≤ 64) (hcap : l.length ≤ cap) (hm : cap ≤ maxLen) :
    Calls Tryz.prog 29 #[.slice A l.length cap] w fun e w' => e = .returned (.tuple #[.agg (recA (recRd l).1), .bool (recRd l).2]) ∧ Chg Non w w' := by
  cases ho : openL 1 l with
  | none =>
    have := recRead_core A [] 0 (by simp) 70 A l cap w (fun W hg => (Open_none 1 A l cap W (hr.non hg) h64 hl hcap hm ho).mono (by
      rintro e w' ⟨rfl, hg'⟩
      exact ⟨none, 0, rfl, Rd.nil _ _, hg'⟩))
    unfold recRd
    rw [ho]
    exact this
  | some m =>
    have hml : m.length ≤ 65536 := by
      unfold openL at ho
      split at ho
      · injection ho with ho
        rw [← ho, List.length_take, List.length_drop]; omega
      · cases ho
    have := recRead_core A m 0 hml 0 A l cap w (fun W hg => (Open_some 1 A l m cap W (hr.non hg) h64 hl hcap hm ho).mono (by
      rintro e w' ⟨A1, c1, rfl, _, _, ho1, hg'⟩
      exact ⟨A1, c1, rfl, ho1.rd, hg'⟩))
    unfold recRd
    rw [ho]
    exact this

/-- Put: what it makes of a disk that was made -/
def cPut (D : Dk) (r : Rec) : Dk × Int :=
  if r.may = false then (D, 2)
  else
    let x := D.write (r.seqn % 2) (sealL 1 (recForm r))
    if x.2 ≠ 0 then x else x.1.flush

theorem cwrite_sz {D : Dk} (h : D.Sz) (i : Int) (b : List UInt8) : (D.write i b).1.Sz := by
  unfold Dk.write Dk.operate Dk.fall Dk.spill
  repeat' split
  all_goals first
    | exact h
    | exact ⟨h.stay, by have := h.left; show max (D.left - 1) 0 ≤ _; omega⟩
    | exact ⟨by simp, by simp⟩

theorem may_true {r : Rec} (h : r.may = true) : 1 ≤ r.seqn ∧ (r.slot = 0 ∨ r.slot = 1) ∧ 1 ≤ r.len ∧ r.len ≤ 4096 := by
  unfold Rec.may at h
  simp only [Bool.and_eq_true, Bool.or_eq_true, decide_eq_true_eq] at h
  exact ⟨h.1.1.1, h.1.1.2, h.1.2, h.2⟩

set_option maxRecDepth 100000 in
set_option maxHeartbeats 4000000 in
theorem cPut_any (pd ps pm : Nat) (D : Dk) (r : Rec) (w : World) (hh : r.hash.length = 32) (hs2 : r.seqn ≤ 9223372036854775807) (h : IsD w pd ps pm D) (hsz : D.Sz) (hlen : 0 < D.sec.length) :
    Calls Tryz.prog 10 #[.pointer (some ⟨pd, 0, none⟩), .agg (recA r)] w fun e w' => e = .returned (.int .i64 (cPut D r).2) ∧ IsD w' pd ps pm (cPut D r).1 ∧ Chg (DS pd ps pm) w w' := by
  have HL := Lib.hid (fun W hg => Len_ok pd ps pm D W (h.non hg))
  have hlt := h.lt
  have hlz : ((D.sec.length : Int) == 0) = false := beq_eq_false_iff_ne.2 (by omega)
  have HD := Lib.hid h
  have HXS := Lib.hid (recA_size r hh)
  have HX0 := Lib.hid (recA_0 r)
  have hM := May_any r
  have hSe := fun W (hs : r.slot = 0 ∨ r.slot = 1) => sector_any r W hs hh
  have hf2 := recForm_len r hh
  have hW := fun B c W h hr hB => Write_any pd ps pm D (r.seqn % 2) B (sealL 1 (recForm r)) c W h hsz hr hB
  have hsz2 := cwrite_sz hsz (r.seqn % 2) (sealL 1 (recForm r))
  have hFl := fun W h => Flush_any pd ps pm (D.write (r.seqn % 2) (sealL 1 (recForm r))).1 W h hsz2
  obtain ⟨X, hX⟩ : ∃ X, recA r = X := ⟨_, rfl⟩
  rw [hX] at HXS HX0 hM hSe ⊢
  unfold cPut
  cases hm : r.may with
  | false =>
    rw [hm] at hM
    have HM := Lib.hid hM
    simp only [if_true]
    clear hX hM hSe hW hFl hsz2 hm h hsz
    go_enter Tryz.func10, Tryz.ntmps10
    go_wp2_with fail
    refine (HL.out _ ((Chg.refl Non w).alloc _)).mono ?_
    rintro e w' ⟨rfl, rfl⟩
    go_wp2_with (first
      | (refine sel (some 11) (.load 25 (.tmp 3)) ?_; refine wpList_load_rec rfl (.tmp 3) rfl w.heap.size 0 rfl X (range_block (heap_alloc_new _ _)) HXS.out ?_)
      | (go_at_call 13
         refine (HM.out _).mono ?_
         rintro e w0 ⟨rfl, hg0⟩
         have HG0 := Lib.hid (((Chg.refl Non w).alloc _).then_non hg0)
         have HB0 := Lib.hid ((hg0.block w.heap.size (by simp) (fun e => e)).trans (heap_alloc_new _ _))
         clear hg0))
    go_wp2
    go_ret
    exact ⟨rfl, HD.out.non HG0.out, HG0.out.of_non⟩
  | true =>
    obtain ⟨b1, b2, _, _⟩ := may_true hm
    rw [hm] at hM
    simp only [Bool.true_eq_false, if_false]
    obtain ⟨sl, hsl⟩ : ∃ sl, sealL 1 (recForm r) = sl := ⟨_, rfl⟩
    rw [hsl] at hSe hW hFl ⊢
    obtain ⟨sq, hsq⟩ : ∃ sq, r.seqn = sq := ⟨_, rfl⟩
    rw [hsq] at HX0 hW hFl b1 hs2 ⊢
    have HM := Lib.hid hM
    have HSe := Lib.hid (fun W => hSe W b2)
    obtain ⟨⟨D2, er⟩, hq⟩ : ∃ q, D.write (sq % 2) sl = q := ⟨_, rfl⟩
    rw [hq] at hW hFl ⊢
    simp only at hW hFl ⊢
    have HW := Lib.hid hW
    have HFl := Lib.hid hFl
    have h0 : 0 ≤ sq := by omega
    have htm : sq.tmod 2 = sq % 2 := Int.tmod_eq_emod_of_nonneg h0
    have hr0 : 0 ≤ sq % 2 := by omega
    have hr1 : sq % 2 < 2 := by omega
    have hwr : IntKind.i64.wrap (sq % 2) = sq % 2 := Go.IntWalk.i64_in _ (by omega)
    clear hX hM hSe hW hFl hsz2 hm h hsz hsl hsq hq hf2 b2 hh
    by_cases her : er = 0
    · subst her
      simp only [ne_eq, not_true_eq_false, if_false]
      go_enter Tryz.func10, Tryz.ntmps10
      go_wp2_with fail
      refine (HL.out _ ((Chg.refl Non w).alloc _)).mono ?_
      rintro e w' ⟨rfl, rfl⟩
      go_wp2_with (first
        | (refine sel (some 11) (.load 25 (.tmp 3)) ?_; refine wpList_load_rec rfl (.tmp 3) rfl w.heap.size 0 rfl X (range_block (heap_alloc_new _ _)) HXS.out ?_)
        | (go_at_call 13
           refine (HM.out _).mono ?_
           rintro e w0 ⟨rfl, hg0⟩
           have HG0 := Lib.hid (((Chg.refl Non w).alloc _).then_non hg0)
           have HB0 := Lib.hid ((hg0.block w.heap.size (by simp) (fun e => e)).trans (heap_alloc_new _ _))
           clear hg0))
      go_wp2_with fail
      have hgl : w.heap.size < w0.drew.heap.size := (Array.getElem?_eq_some_iff.1 HB0.out).1
      have hgD : ¬ DS pd ps pm w.heap.size := by unfold DS; omega
      have HB := Lib.hid (show w0.drew.heap[w.heap.size]? = some (.cells X 25 (0, 0)) from HB0.out)
      have HG0 := Lib.hid HG0.out.drew
      refine wp_region_held_drew (S := fun w' => w'.heap[w.heap.size]? = some (.cells X 25 (0, 0))) (by kernel_rfl) HB.out (fun _ => ?_)
      refine h_pure 0 (some 14) (.pointer (some ⟨pd, 0, none⟩)) rfl (by kernel_rfl) (by kernel_rfl) (by kernel_rfl) (by kernel_rfl) (fun _ _ _ h => h) (by kernel_rfl) (fun w e => by go_simp) HB.out ?_
      simp only [Act.put, List.setIfInBounds_toArray, List.set_cons_zero, List.set_cons_succ]
      refine h_pure 1 (some 15) (.pointer (some ⟨w.heap.size, 0, none⟩)) rfl (by kernel_rfl) (by kernel_rfl) (by kernel_rfl) (by kernel_rfl) (fun _ _ _ h => h) (by kernel_rfl) (fun w e => by go_simp) HB.out ?_
      simp only [Act.put, List.setIfInBounds_toArray, List.set_cons_zero, List.set_cons_succ]
      refine h_pure 2 (some 16) (.int .i64 sq) rfl (by kernel_rfl) (by kernel_rfl) (by kernel_rfl) (by kernel_rfl) (fun _ _ _ h => h) (by kernel_rfl) (fun v e => by (have k : v.cell? ⟨w.heap.size, 0, none⟩ = some (.int .i64 sq) := (by rw [cell_of_row _ _ _ _ _ _ e]; exact HX0.out)); go_simp) HB.out ?_
      simp only [Act.put, List.setIfInBounds_toArray, List.set_cons_zero, List.set_cons_succ]
      refine h_pure 3 (some 17) (.int .i64 (sq % 2)) rfl (by kernel_rfl) (by kernel_rfl) (by kernel_rfl) (by kernel_rfl) (fun _ _ _ h => h) (by kernel_rfl) (fun w e => by go_simp) HB.out ?_
      simp only [Act.put, List.setIfInBounds_toArray, List.set_cons_zero, List.set_cons_succ]
      refine h_pure 4 (some 18) (.int .i64 (sq % 2)) rfl (by kernel_rfl) (by kernel_rfl) (by kernel_rfl) (by kernel_rfl) (fun _ _ _ h => h) (by kernel_rfl) (fun w e => by go_simp) HB.out ?_
      simp only [Act.put, List.setIfInBounds_toArray, List.set_cons_zero, List.set_cons_succ]
      refine h_load 5 (some 19) 25 (.tmp 3) w.heap.size 0 X _ rfl (by kernel_rfl) (by kernel_rfl) (by kernel_rfl) (by kernel_rfl) (by kernel_rfl) (fun _ _ _ h => h) (by kernel_rfl) (by kernel_rfl) (fun w h => range_block h) Tryz.underlying25 rfl (by rw [HXS.out]; exact info_rec) HB.out ?_
      simp only [Act.put, List.setIfInBounds_toArray, List.set_cons_zero, List.set_cons_succ]
      refine h_one 6 (by kernel_rfl) rfl (by kernel_rfl) ?_
      intro K hK
      go_simp
      go_at_call 30
      refine (HSe.out _).mono ?_
      rintro e w1 ⟨A1, c1, rfl, hc1, hm1, ho1, hg1⟩
      refine hK.out _ _ ((hg1.block _ hgl (fun e => e)).trans HB.out) (fun _ => ?_)
      clear hK K
      have hgw : Chg Non w w1 := HG0.out.then_non hg1
      refine h_one 7 (by kernel_rfl) rfl (by kernel_rfl) ?_
      intro K hK
      go_simp
      go_at_call 16
      refine (HW.out _ _ _ (HD.out.non hgw) ho1.rd (fun b o e hne => by subst e; have := ho1.ge hne; have := HG0.out.size; omega)).mono ?_
      rintro e w3 ⟨rfl, h3, hg3⟩
      refine hK.out _ _ ((hg3.block _ (Nat.lt_of_lt_of_le hgl hg1.size) hgD).trans ((hg1.block _ hgl (fun e => e)).trans HB.out)) (fun hS3 => ?_)
      clear hK K
      have H3 := Lib.hid h3
      clear h3
      refine h_pure 8 (some 5) (.int .i64 0) rfl (by kernel_rfl) (by kernel_rfl) (by kernel_rfl) (by kernel_rfl) (fun _ _ _ h => h) (by kernel_rfl) (fun w e => by go_simp) hS3 ?_
      simp only [Act.put, List.setIfInBounds_toArray, List.set_cons_zero, List.set_cons_succ]
      refine wpAnyH_done (by kernel_rfl) ?_ _
      go_wp2_with fail
      refine (HFl.out _ H3.out).mono ?_
      rintro e w4 ⟨rfl, h4, hg4⟩
      go_wp2
      go_ret
      exact ⟨rfl, h4, (hgw.non_then hg3).trans_same hg4⟩
    · have hne : (er != 0) = true := by simpa using her
      simp only [her, ne_eq, not_false_eq_true, if_true]
      clear her
      go_enter Tryz.func10, Tryz.ntmps10
      go_wp2_with fail
      refine (HL.out _ ((Chg.refl Non w).alloc _)).mono ?_
      rintro e w' ⟨rfl, rfl⟩
      go_wp2_with (first
        | (refine sel (some 11) (.load 25 (.tmp 3)) ?_; refine wpList_load_rec rfl (.tmp 3) rfl w.heap.size 0 rfl X (range_block (heap_alloc_new _ _)) HXS.out ?_)
        | (go_at_call 13
           refine (HM.out _).mono ?_
           rintro e w0 ⟨rfl, hg0⟩
           have HG0 := Lib.hid (((Chg.refl Non w).alloc _).then_non hg0)
           have HB0 := Lib.hid ((hg0.block w.heap.size (by simp) (fun e => e)).trans (heap_alloc_new _ _))
           clear hg0))
      go_wp2_with fail
      have hgl : w.heap.size < w0.drew.heap.size := (Array.getElem?_eq_some_iff.1 HB0.out).1
      have hgD : ¬ DS pd ps pm w.heap.size := by unfold DS; omega
      have HB := Lib.hid (show w0.drew.heap[w.heap.size]? = some (.cells X 25 (0, 0)) from HB0.out)
      have HG0 := Lib.hid HG0.out.drew
      refine wp_region_held_drew (S := fun w' => w'.heap[w.heap.size]? = some (.cells X 25 (0, 0))) (by kernel_rfl) HB.out (fun _ => ?_)
      refine h_pure 0 (some 14) (.pointer (some ⟨pd, 0, none⟩)) rfl (by kernel_rfl) (by kernel_rfl) (by kernel_rfl) (by kernel_rfl) (fun _ _ _ h => h) (by kernel_rfl) (fun w e => by go_simp) HB.out ?_
      simp only [Act.put, List.setIfInBounds_toArray, List.set_cons_zero, List.set_cons_succ]
      refine h_pure 1 (some 15) (.pointer (some ⟨w.heap.size, 0, none⟩)) rfl (by kernel_rfl) (by kernel_rfl) (by kernel_rfl) (by kernel_rfl) (fun _ _ _ h => h) (by kernel_rfl) (fun w e => by go_simp) HB.out ?_
      simp only [Act.put, List.setIfInBounds_toArray, List.set_cons_zero, List.set_cons_succ]
      refine h_pure 2 (some 16) (.int .i64 sq) rfl (by kernel_rfl) (by kernel_rfl) (by kernel_rfl) (by kernel_rfl) (fun _ _ _ h => h) (by kernel_rfl) (fun v e => by (have k : v.cell? ⟨w.heap.size, 0, none⟩ = some (.int .i64 sq) := (by rw [cell_of_row _ _ _ _ _ _ e]; exact HX0.out)); go_simp) HB.out ?_
      simp only [Act.put, List.setIfInBounds_toArray, List.set_cons_zero, List.set_cons_succ]
      refine h_pure 3 (some 17) (.int .i64 (sq % 2)) rfl (by kernel_rfl) (by kernel_rfl) (by kernel_rfl) (by kernel_rfl) (fun _ _ _ h => h) (by kernel_rfl) (fun w e => by go_simp) HB.out ?_
      simp only [Act.put, List.setIfInBounds_toArray, List.set_cons_zero, List.set_cons_succ]
      refine h_pure 4 (some 18) (.int .i64 (sq % 2)) rfl (by kernel_rfl) (by kernel_rfl) (by kernel_rfl) (by kernel_rfl) (fun _ _ _ h => h) (by kernel_rfl) (fun w e => by go_simp) HB.out ?_
      simp only [Act.put, List.setIfInBounds_toArray, List.set_cons_zero, List.set_cons_succ]
      refine h_load 5 (some 19) 25 (.tmp 3) w.heap.size 0 X _ rfl (by kernel_rfl) (by kernel_rfl) (by kernel_rfl) (by kernel_rfl) (by kernel_rfl) (fun _ _ _ h => h) (by kernel_rfl) (by kernel_rfl) (fun w h => range_block h) Tryz.underlying25 rfl (by rw [HXS.out]; exact info_rec) HB.out ?_
      simp only [Act.put, List.setIfInBounds_toArray, List.set_cons_zero, List.set_cons_succ]
      refine h_one 6 (by kernel_rfl) rfl (by kernel_rfl) ?_
      intro K hK
      go_simp
      go_at_call 30
      refine (HSe.out _).mono ?_
      rintro e w1 ⟨A1, c1, rfl, hc1, hm1, ho1, hg1⟩
      refine hK.out _ _ ((hg1.block _ hgl (fun e => e)).trans HB.out) (fun _ => ?_)
      clear hK K
      have hgw : Chg Non w w1 := HG0.out.then_non hg1
      refine h_one 7 (by kernel_rfl) rfl (by kernel_rfl) ?_
      intro K hK
      go_simp
      go_at_call 16
      refine (HW.out _ _ _ (HD.out.non hgw) ho1.rd (fun b o e hne => by subst e; have := ho1.ge hne; have := HG0.out.size; omega)).mono ?_
      rintro e w3 ⟨rfl, h3, hg3⟩
      refine hK.out _ _ ((hg3.block _ (Nat.lt_of_lt_of_le hgl hg1.size) hgD).trans ((hg1.block _ hgl (fun e => e)).trans HB.out)) (fun hS3 => ?_)
      clear hK K
      have H3 := Lib.hid h3
      clear h3
      refine h_pure 8 (some 5) (.int .i64 er) rfl (by kernel_rfl) (by kernel_rfl) (by kernel_rfl) (by kernel_rfl) (fun _ _ _ h => h) (by kernel_rfl) (fun w e => by go_simp) hS3 ?_
      simp only [Act.put, List.setIfInBounds_toArray, List.set_cons_zero, List.set_cons_succ]
      refine wpAnyH_done (by kernel_rfl) ?_ _
      go_wp2
      go_ret
      exact ⟨rfl, H3.out, hgw.non_then hg3⟩
end Go.Proofs.YthhbdejagglgbaaGreat
