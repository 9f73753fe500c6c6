/- Walks of package isa: Text, Name. -/
import Derived.Test.YtpcmnphohneddaaGreatDoorIsa6
import Derived.Lib.ItoaLen
namespace Go.Proofs.YtpcmnphohneddaaGreatDoor
open Go.RowKit
set_option linter.unusedVariables false

theorem wds_start (w : World) (name : List UInt8) : Wds w ((w.alloc (.cells #[.string ⟨name.toArray⟩] 9)).alloc (.cells #[.slice (some ⟨w.heap.size, 0, none⟩) 1 1] 61)) (w.heap.size + 1) [name] := by
  refine ⟨((Chg.refl Non _).alloc _).alloc _, by omega, ⟨.slice (some ⟨w.heap.size, 0, none⟩) 1 1, ?_, ?_, ?_⟩, by simp⟩
  · rw [show w.heap.size + 1 = (w.alloc (.cells #[.string ⟨name.toArray⟩] 9)).heap.size by simp, heap_alloc_new]
  · refine ⟨by simp, .inr ⟨w.heap.size, 1, #[mkStr name], rfl, Nat.le_refl _, ?_, by simp, by unfold maxLen; omega, rfl, rfl⟩⟩
    rw [Below.heap_alloc _ _ _ (by simp), heap_alloc_new]
    rfl
  · simp [Value.ownBlock]
theorem wordIf_len (h : Bool) (n : Int) : (wordIf h n).length ≤ 1 := by unfold wordIf; split <;> simp
theorem wordIf_bd (h : Bool) (n : Int) (x : List UInt8) (hx : x ∈ wordIf h n) (h0 : -9223372036854775808 ≤ n) (h1 : n ≤ 9223372036854775807) : x.length ≤ 21 := by
  unfold wordIf at hx
  split at hx
  · simp only [List.mem_singleton] at hx
    subst hx
    exact Lib.itoa_length_le n h0 h1
  · simp at hx
theorem join_small (l : List (List UInt8)) (h : ∀ x ∈ l, x.length ≤ 1000) (hl : l.length ≤ 100) : (Lib.join l [32]).length ≤ 200000 := by
  cases l with
  | nil => simp [Lib.join_nil]
  | cons x r =>
    rw [Lib.join_length]
    have key : ∀ (m : List (List UInt8)), (∀ x ∈ m, x.length ≤ 1000) → Lib.lens m ≤ 1000 * m.length := by
      intro m
      induction m with
      | nil => intro _; simp [Lib.lens]
      | cons y s ih =>
        intro h
        have h1 := h y (by simp)
        have h2 := ih (fun x hx => h x (by simp [hx]))
        simp [Lib.lens] at h2 ⊢
        omega
    have := key (x :: r) h
    simp at hl this ⊢
    omega

theorem opAt_name_len (k : Nat) : (opAt k).name.length ≤ 5 := by
  rcases Nat.lt_or_ge k 22 with h | h
  · revert k; decide
  · rw [opAt_big k h]; decide

set_option maxRecDepth 100000 in
set_option maxHeartbeats 2000000 in
theorem Text_ok (x : Ins) (w : World) (hE : Env w) (hm : mayB x = true) :
    Calls Tryz.prog 74 #[.agg #[.int .u8 x.op, .int .u8 x.a, .int .u8 x.b, .int .u8 x.c, .int .i64 x.n]] w fun e w' => e = .returned (mkStr (Lib.join (textW x) [32])) ∧ Chg Non w w' := by
  have HM := Lib.hid (fun w => May_ok x w)
  rw [hm] at HM
  have hbd := May.bd hm
  obtain ⟨op, a, b, c, n⟩ := x
  have HO := Lib.hid (fun w => of_any op w)
  simp only at HM
  have hw : textW ⟨op, a, b, c, n⟩ = (opAt op).name :: (wordIf (opAt op).a a ++ (wordIf (opAt op).b b ++ (wordIf (opAt op).c c ++ wordIf (decide (0 < (opAt op).n)) n))) := rfl
  rw [hw]
  clear hw hm
  obtain ⟨F, hF⟩ : ∃ F, opAt op = F := ⟨_, rfl⟩
  have hnm := opAt_name_len op
  rw [hF] at HO hnm ⊢
  clear hF
  have hop : opC F = #[.string ⟨F.name.toArray⟩, .bool F.a, .bool F.b, .bool F.c, .int .i64 F.n] := rfl
  rw [hop] at HO
  clear hop
  obtain ⟨b1, b2, b3, b4, b5, b6⟩ := hbd
  simp only at b1 b2 b3 b4 b5 b6
  have HEn := Lib.hid hE
  clear hE
  go_enter Tryz.func74, Tryz.ntmps74
  go_wp2_with fail
  refine (HO.out _).mono ?_
  rintro e w1 ⟨rfl, hg⟩
  have HC := Lib.hid (cells5A w w1 _ _ _ _ _ _ hg)
  have HG : Hid (Chg Non w w1) := Lib.hid (((Chg.refl Non w).alloc _).then_non hg)
  clear hg
  obtain ⟨hz, c0, c1, c2, c3, c4⟩ := HC.out
  go_wp2_with fail
  refine (HM.out _).mono ?_
  rintro e w2 ⟨rfl, hg⟩
  have HC2 := Lib.hid ((HC.out.non ((Chg.refl Non _).alloc _)).non hg)
  have HD2 := Lib.hid (cells5A w1 w2 _ _ _ _ _ _ hg)
  have HG2 : Hid (Chg Non w w2) := Lib.hid ((HG.out.alloc _).then_non hg)
  clear hz c0 c1 c2 c3 c4 hg HC HG
  obtain ⟨hz, c0, c1, c2, c3, c4⟩ := HC2.out
  obtain ⟨dz, d0, d1, d2, d3, d4⟩ := HD2.out
  have HW := Lib.hid (wds_start w2 F.name)
  have HE2 : Hid (Env w2) := Lib.hid (HEn.out.non HG2.out)
  go_wp2_with fail
  refine (add_any w2 _ _ _ F.a a HE2.out HW.out (by omega) (by omega) (by simp)).mono ?_
  rintro e w3 ⟨rfl, hW3⟩
  have HW := Lib.hid hW3
  clear hz c0 c1 c2 c3 c4 dz d0 d1 d2 d3 d4 hW3
  obtain ⟨hz, c0, c1, c2, c3, c4⟩ := HC2.out.non HW.out.chg
  obtain ⟨dz, d0, d1, d2, d3, d4⟩ := HD2.out.non HW.out.chg
  go_wp2_with fail
  refine (add_any w2 _ _ _ (F.b) b HE2.out HW.out (by omega) (by omega) (by have h1 := wordIf_len F.a a; have h2 := wordIf_len F.b b; have h3 := wordIf_len F.c c; simp; omega)).mono ?_
  rintro e w4 ⟨rfl, hW4⟩
  have HW := Lib.hid hW4
  clear hz c0 c1 c2 c3 c4 dz d0 d1 d2 d3 d4 hW4
  obtain ⟨hz, c0, c1, c2, c3, c4⟩ := HC2.out.non HW.out.chg
  obtain ⟨dz, d0, d1, d2, d3, d4⟩ := HD2.out.non HW.out.chg
  go_wp2_with fail
  refine (add_any w2 _ _ _ (F.c) c HE2.out HW.out (by omega) (by omega) (by have h1 := wordIf_len F.a a; have h2 := wordIf_len F.b b; have h3 := wordIf_len F.c c; simp; omega)).mono ?_
  rintro e w5 ⟨rfl, hW5⟩
  have HW := Lib.hid hW5
  clear hz c0 c1 c2 c3 c4 dz d0 d1 d2 d3 d4 hW5
  obtain ⟨hz, c0, c1, c2, c3, c4⟩ := HC2.out.non HW.out.chg
  obtain ⟨dz, d0, d1, d2, d3, d4⟩ := HD2.out.non HW.out.chg
  have hdec : decide ((F.n : Int) > 0) = decide (0 < F.n) := by rw [Bool.eq_iff_iff]; simp
  go_wp2_with fail
  refine (add_any w2 _ _ _ (decide (0 < F.n)) n HE2.out HW.out (by omega) (by omega) (by have h1 := wordIf_len F.a a; have h2 := wordIf_len F.b b; have h3 := wordIf_len F.c c; simp; omega)).mono ?_
  rintro e w6 ⟨rfl, hW6⟩
  have HW := Lib.hid hW6
  clear hz c0 c1 c2 c3 c4 dz d0 d1 d2 d3 d4 hW6
  obtain ⟨L, hL⟩ : ∃ L, [F.name] ++ wordIf F.a a ++ wordIf F.b b ++ wordIf F.c c ++ wordIf (decide (0 < F.n)) n = L := ⟨_, rfl⟩
  have hbd : ∀ x ∈ L, x.length ≤ 1000 := by
    intro x hx
    rw [← hL] at hx
    simp only [List.mem_append, List.mem_singleton] at hx
    rcases hx with (((rfl | h) | h) | h) | h
    · omega
    · have := wordIf_bd _ _ _ h (by omega) (by omega); omega
    · have := wordIf_bd _ _ _ h (by omega) (by omega); omega
    · have := wordIf_bd _ _ _ h (by omega) (by omega); omega
    · have := wordIf_bd _ _ _ h (by omega) (by omega); omega
  rw [hL] at HW
  have HJ := Lib.hid (join_small L hbd HW.out.len)
  have hne0 : L ≠ [] := by rw [← hL]; simp
  have HN0 := Lib.hid hne0
  have HL : Hid (L = F.name :: (wordIf F.a a ++ (wordIf F.b b ++ (wordIf F.c c ++ wordIf (decide (0 < F.n)) n)))) := Lib.hid (by rw [← hL]; simp)
  clear hL hbd hne0
  obtain ⟨v, hv, hown, hne⟩ := HW.out.row
  obtain ⟨A, cp, rfl, hcp, hmx, hrd⟩ := hown.rd
  have hcell := cell_of_one hv
  have HRD := Lib.hid hrd
  have HCP := Lib.hid hcp
  clear hrd hcp hown hne hv
  go_wp2_with fail
  refine (join_ok A cp L [32] w6 HRD.out HN0.out HCP.out (by have := HW.out.len; omega) (by have := HJ.out; omega)).mono ?_
  rintro e w7 ⟨rfl, hg7⟩
  rw [HL.out]
  go_wp2_with fail
  go_ret
  exact ⟨rfl, (HG2.out.then_non HW.out.chg).then_non hg7⟩

set_option maxRecDepth 100000 in
set_option maxHeartbeats 2000000 in
theorem Text_no (x : Ins) (w : World) (hm : mayB x = false) :
    Calls Tryz.prog 74 #[.agg #[.int .u8 x.op, .int .u8 x.a, .int .u8 x.b, .int .u8 x.c, .int .i64 x.n]] w fun e w' => e = .returned (mkStr []) ∧ Chg Non w w' := by
  have HM := Lib.hid (fun w => May_ok x w)
  rw [hm] at HM
  clear hm
  obtain ⟨op, a, b, c, n⟩ := x
  have HO := Lib.hid (fun w => of_any op w)
  simp only at HM
  obtain ⟨F, hF⟩ : ∃ F, opAt op = F := ⟨_, rfl⟩
  rw [hF] at HO
  clear hF
  have hop : opC F = #[.string ⟨F.name.toArray⟩, .bool F.a, .bool F.b, .bool F.c, .int .i64 F.n] := rfl
  rw [hop] at HO
  clear hop
  go_enter Tryz.func74, Tryz.ntmps74
  go_wp2_with fail
  refine (HO.out _).mono ?_
  rintro e w1 ⟨rfl, hg⟩
  have HC := Lib.hid (cells5A w w1 _ _ _ _ _ _ hg)
  have HG : Hid (Chg Non w w1) := Lib.hid (((Chg.refl Non w).alloc _).then_non hg)
  clear hg
  obtain ⟨hz, c0, c1, c2, c3, c4⟩ := HC.out
  go_wp2_with fail
  refine (HM.out _).mono ?_
  rintro e w2 ⟨rfl, hg⟩
  have HG2 : Hid (Chg Non w w2) := Lib.hid ((HG.out.alloc _).then_non hg)
  clear hg
  go_wp2_with fail
  go_ret
  exact ⟨rfl, HG2.out⟩

theorem Text_any (x : Ins) (w : World) (hE : Env w) :
    Calls Tryz.prog 74 #[.agg #[.int .u8 x.op, .int .u8 x.a, .int .u8 x.b, .int .u8 x.c, .int .i64 x.n]] w fun e w' => e = .returned (mkStr (textL x)) ∧ Chg Non w w' := by
  unfold textL
  cases hm : mayB x with
  | true => simpa using Text_ok x w hE hm
  | false => simpa using Text_no x w hm

set_option maxRecDepth 100000 in
set_option maxHeartbeats 2000000 in
theorem Name_ok (n : Nat) (w : World) :
    Calls Tryz.prog 17 #[.int .u8 n] w fun e w' => e = .returned (mkStr (opAt n).name) ∧ Chg Non w w' := by
  have HO := Lib.hid (fun w => of_any n w)
  obtain ⟨F, hF⟩ : ∃ F, opAt n = F := ⟨_, rfl⟩
  rw [hF] at HO ⊢
  clear hF
  have hop : opC F = #[.string ⟨F.name.toArray⟩, .bool F.a, .bool F.b, .bool F.c, .int .i64 F.n] := rfl
  rw [hop] at HO
  clear hop
  go_enter Tryz.func17, Tryz.ntmps17
  go_wp2_with fail
  refine (HO.out _).mono ?_
  rintro e w1 ⟨rfl, hg⟩
  go_wp2_with fail
  go_ret
  exact ⟨rfl, hg.alloc _⟩
end Go.Proofs.YtpcmnphohneddaaGreatDoor
