/- BootNil, part 13 of 14: contracts of the functions that it reaches, and the laws that they need, merged and shortened (from my texts XShG, XShH, XBnF, XBnH, XPost, XOpen, XSized, XRecOpen). -/
import Derived.Test.YtajkajgifigmbaaGreatMgBootNilA
import Derived.Test.YtajkajgifigmbaaGreatMgBootNilB
import Derived.Test.YtajkajgifigmbaaGreatMgBootNilG
import Derived.Test.YtajkajgifigmbaaGreatMgBootNilH
import Derived.Test.YtajkajgifigmbaaGreatMgBootNilJ
import Derived.Test.YtajkajgifigmbaaGreatMgBootNilK
import Derived.Test.YtajkajgifigmbaaGreatMgBootNilL
import Derived.ProofKit
import Derived.WalkKit
import Derived.OpenShut
import Derived.ReadAgain
import Derived.SizedLaws
namespace Go.Proofs.YtajkajgifigmbaaGreat
set_option linter.unusedVariables false
set_option linter.unusedSimpArgs false
set_option maxHeartbeats 8000000
set_option maxRecDepth 100000
section
open Go.RowKit
theorem Tail_ok (n : Nat) (hn : n ≤ 1000000000000) (w : World) : Calls Tryz.prog 105 #[.int .i64 n] w (RetB w (shaTail n)) := by
 have HPut := Lh (fun W => Put64 (8 * n) W (by omega))
 obtain ⟨z, hz⟩ : ∃ z, (119 - n % 64) % 64 = z := ⟨_, rfl⟩
 have hz64 : z < 64 := by omega
 have HR : Hid (shaTail n = 128 :: (List.replicate z 0 ++ be (8 * n) 8)) := Lh (by unfold shaTail; rw [hz])
 have HZ : Hid ((119 - (n : Int) % 64) % 64 = (z : Int)) := Lh (by omega)
 have HRl : Hid ((shaTail n).length = z + 9) := Lh (by rw [shaTail_length, hz])
 have hmk : ∀ W : World, (Instr.makeSlice 32 (.int .i64 z) (.int .i64 z)).run Tryz.prog W = .ok (.slice (some ⟨W.heap.size, 0, none⟩) z z) (W.alloc (.cells (Array.replicate z (.int .u8 0)) 5)) := fun W => by
  have h := mk_bytes (z : Int) (by omega) (by omega) W
  simpa using h
 have w8 : IntKind.u64.wrap (8 * (n : Int)) = 8 * (n : Int) := by rw [IntKind.wrap_u64]; omega
 have wn : IntKind.u64.wrap (n : Int) = (n : Int) := by rw [IntKind.wrap_u64]; omega
 have HW8 := Lh w8
 have HWn := Lh wn
 have e8 : ((8 * n : Nat) : Int) = 8 * (n : Int) := by omega
 rw [e8] at HPut
 clear hz w8 wn e8
 go_enter Tryz.func105, Tryz.ntmps105
 go_wp2_with fail
 rw [HZ.out]
 obtain ⟨V, hV⟩ : ∃ V, V = w.drew := ⟨_, rfl⟩
 have HgV : Hid (Chg Non w V) := Lh (by rw [hV]; exact (Chg.refl Non w).drew)
 refine wp_region_held_drew (S := Chg Non V) (by kernel_rfl) (by rw [hV]; exact Chg.refl _ _) (fun hHeld => ?_)
 clear hHeld
 rw [← hV]
 clear hV
 have HV : Hid (Chg Non V V) := Lh (Chg.refl _ _)
 refine hp 1 11 (.int .i64 z) rfl HV.out ?_
 refine hp 3 13 (.int .i64 n) rfl HV.out ?_
 refine hp 4 14 (.int .u64 n) rfl HV.out ?_ (he := fun W hW => by have h := HWn.out; go_simp)
 refine hp 5 15 (.int .u64 (8 * (n : Int))) rfl HV.out ?_ (he := fun W hW => by have h := HW8.out; go_simp)
 refine hThree 0 2 6 (by kernel_rfl) rfl rfl rfl (by kernel_rfl) (by kernel_rfl) (by kernel_rfl) ?_ ?_ ?_
 ·intro K hK
  go_simp
  refine hK.out _ _ (HV.out.alloc _) (fun _ => ?_)
  clear hK K
  try simp only [Act.put, sA, sB, sC]
  have hnew := (own_new V 5 #[.int .u8 128] [128] (by rfl)).rd
  have hgX : Chg Non V (V.alloc (.cells #[.int .u8 128] 5)) := (Chg.refl Non V).alloc _
  have HV := Lh (HV.out.then_non hgX)
  obtain ⟨u1, hU⟩ : ∃ X, V.alloc (.cells #[.int .u8 128] 5) = X := ⟨_, rfl⟩
  rw [hU] at hnew HV ⊢
  clear hgX hU
  obtain ⟨g0, hg0⟩ : ∃ k, V.heap.size = k := ⟨_, rfl⟩
  rw [hg0] at hnew ⊢
  have H0 := Lh hnew
  clear hnew hg0
  refine hTwo 2 6 (by kernel_rfl) rfl rfl (by kernel_rfl) (by kernel_rfl) ?_ ?_
  ·intro K hK
   go_simp
   refine hK.out _ _ (HV.out.alloc _) (fun _ => ?_)
   clear hK K
   try simp only [Act.put, sA, sB, sC]
   have hnew := (own_new u1 5 (Array.replicate z (.int .u8 0)) (List.replicate z 0) (by simp [bv])).rd
   have hgX : Chg Non u1 (u1.alloc (.cells (Array.replicate z (.int .u8 0)) 5)) := (Chg.refl Non u1).alloc _
   have H0 := Lh (H0.out.non hgX)
   have HV := Lh (HV.out.then_non hgX)
   obtain ⟨u2, hU⟩ : ∃ X, u1.alloc (.cells (Array.replicate z (.int .u8 0)) 5) = X := ⟨_, rfl⟩
   rw [hU] at hnew HV ⊢
   rw [hU] at H0
   clear hgX hU
   obtain ⟨g2, hg2⟩ : ∃ k, u1.heap.size = k := ⟨_, rfl⟩
   rw [hg2] at hnew ⊢
   have H2 := Lh hnew
   clear hnew hg2
   refine h1o 6 rfl ?_
   intro K hK
   go_simp
   refine (HPut.out _).mono ?_
   rintro e u3 ⟨A6, c6, rfl, p1, p2, p3, hgX⟩
   rw [be_length] at p1 ⊢
   refine hK.out _ _ (HV.out.then_non hgX) (fun _ => ?_)
   clear hK K
   try simp only [Act.put, sA, sB, sC]
   have H0 := Lh (H0.out.non hgX)
   have H2 := Lh (H2.out.non hgX)
   have HV := Lh (HV.out.then_non hgX)
   have H6 := Lh (And.intro p1 (And.intro p2 p3.rd))
   clear hgX p1 p2 p3
   refine h1o 7 rfl ?_
   intro K hK
   go_simp
   refine hK.out _ _ (HV.out.alloc _) (fun _ => ?_)
   clear hK K
   try simp only [Act.put, sA, sB, sC]
   have hcat := Cat3 (some ⟨g0, 0, none⟩) (some ⟨g2, 0, none⟩) A6 [128] (List.replicate z 0) (be (8 * n) 8) 1 z c6 32 u3 u3.heap.size rfl H0.out H2.out H6.out.2.2 (by simp [be_length]; omega) (shaTail n) (by rw [HR.out]; rfl)
   rw [List.length_replicate, be_length] at hcat
   have HC := Lh hcat
   clear hcat
   refine h1o 8 rfl ?_
   intro K hK
   go_simp
   refine HC.out.mono ?_
   rintro e u9 ⟨A9, c9, rfl, r1, r2, r3, r4⟩
   refine hK.out _ _ (HV.out.then_non r4) (fun _ => ?_)
   clear hK K
   try simp only [Act.put, sA, sB, sC]
   have HF := Lh (And.intro r1 (And.intro r2 (And.intro (r3.mono (HgV.out.then_non HV.out).size) (HgV.out.then_non (HV.out.then_non r4)))))
   have HV9 := Lh (HV.out.then_non r4)
   clear r1 r2 r3 r4 HC
   refine hp 9 2 (.slice A9 (shaTail n).length c9) rfl HV9.out ?_
   refine hdn ?_ _
   go_wp2_with fail
   go_ret
   exact ⟨A9, c9, rfl, HF.out⟩
  ·intro K hK
   go_simp
   refine (HPut.out _).mono ?_
   rintro e u2 ⟨A6, c6, rfl, p1, p2, p3, hgX⟩
   rw [be_length] at p1 ⊢
   refine hK.out _ _ (HV.out.then_non hgX) (fun _ => ?_)
   clear hK K
   try simp only [Act.put, sA, sB, sC]
   have H0 := Lh (H0.out.non hgX)
   have HV := Lh (HV.out.then_non hgX)
   have H6 := Lh (And.intro p1 (And.intro p2 p3.rd))
   clear hgX p1 p2 p3
   refine h1o 2 rfl ?_
   intro K hK
   go_simp
   refine hK.out _ _ (HV.out.alloc _) (fun _ => ?_)
   clear hK K
   try simp only [Act.put, sA, sB, sC]
   have hnew := (own_new u2 5 (Array.replicate z (.int .u8 0)) (List.replicate z 0) (by simp [bv])).rd
   have hgX : Chg Non u2 (u2.alloc (.cells (Array.replicate z (.int .u8 0)) 5)) := (Chg.refl Non u2).alloc _
   have H0 := Lh (H0.out.non hgX)
   have H6 := Lh (And.intro H6.out.1 (And.intro H6.out.2.1 (H6.out.2.2.non hgX)))
   have HV := Lh (HV.out.then_non hgX)
   obtain ⟨u3, hU⟩ : ∃ X, u2.alloc (.cells (Array.replicate z (.int .u8 0)) 5) = X := ⟨_, rfl⟩
   rw [hU] at hnew HV ⊢
   rw [hU] at H0
   rw [hU] at H6
   clear hgX hU
   obtain ⟨g2, hg2⟩ : ∃ k, u2.heap.size = k := ⟨_, rfl⟩
   rw [hg2] at hnew ⊢
   have H2 := Lh hnew
   clear hnew hg2
   refine h1o 7 rfl ?_
   intro K hK
   go_simp
   refine hK.out _ _ (HV.out.alloc _) (fun _ => ?_)
   clear hK K
   try simp only [Act.put, sA, sB, sC]
   have hcat := Cat3 (some ⟨g0, 0, none⟩) (some ⟨g2, 0, none⟩) A6 [128] (List.replicate z 0) (be (8 * n) 8) 1 z c6 32 u3 u3.heap.size rfl H0.out H2.out H6.out.2.2 (by simp [be_length]; omega) (shaTail n) (by rw [HR.out]; rfl)
   rw [List.length_replicate, be_length] at hcat
   have HC := Lh hcat
   clear hcat
   refine h1o 8 rfl ?_
   intro K hK
   go_simp
   refine HC.out.mono ?_
   rintro e u9 ⟨A9, c9, rfl, r1, r2, r3, r4⟩
   refine hK.out _ _ (HV.out.then_non r4) (fun _ => ?_)
   clear hK K
   try simp only [Act.put, sA, sB, sC]
   have HF := Lh (And.intro r1 (And.intro r2 (And.intro (r3.mono (HgV.out.then_non HV.out).size) (HgV.out.then_non (HV.out.then_non r4)))))
   have HV9 := Lh (HV.out.then_non r4)
   clear r1 r2 r3 r4 HC
   refine hp 9 2 (.slice A9 (shaTail n).length c9) rfl HV9.out ?_
   refine hdn ?_ _
   go_wp2_with fail
   go_ret
   exact ⟨A9, c9, rfl, HF.out⟩
 ·intro K hK
  go_simp
  refine hK.out _ _ (HV.out.alloc _) (fun _ => ?_)
  clear hK K
  try simp only [Act.put, sA, sB, sC]
  have hnew := (own_new V 5 (Array.replicate z (.int .u8 0)) (List.replicate z 0) (by simp [bv])).rd
  have hgX : Chg Non V (V.alloc (.cells (Array.replicate z (.int .u8 0)) 5)) := (Chg.refl Non V).alloc _
  have HV := Lh (HV.out.then_non hgX)
  obtain ⟨u1, hU⟩ : ∃ X, V.alloc (.cells (Array.replicate z (.int .u8 0)) 5) = X := ⟨_, rfl⟩
  rw [hU] at hnew HV ⊢
  clear hgX hU
  obtain ⟨g2, hg2⟩ : ∃ k, V.heap.size = k := ⟨_, rfl⟩
  rw [hg2] at hnew ⊢
  have H2 := Lh hnew
  clear hnew hg2
  refine hTwo 0 6 (by kernel_rfl) rfl rfl (by kernel_rfl) (by kernel_rfl) ?_ ?_
  ·intro K hK
   go_simp
   refine hK.out _ _ (HV.out.alloc _) (fun _ => ?_)
   clear hK K
   try simp only [Act.put, sA, sB, sC]
   have hnew := (own_new u1 5 #[.int .u8 128] [128] (by rfl)).rd
   have hgX : Chg Non u1 (u1.alloc (.cells #[.int .u8 128] 5)) := (Chg.refl Non u1).alloc _
   have H2 := Lh (H2.out.non hgX)
   have HV := Lh (HV.out.then_non hgX)
   obtain ⟨u2, hU⟩ : ∃ X, u1.alloc (.cells #[.int .u8 128] 5) = X := ⟨_, rfl⟩
   rw [hU] at hnew HV ⊢
   rw [hU] at H2
   clear hgX hU
   obtain ⟨g0, hg0⟩ : ∃ k, u1.heap.size = k := ⟨_, rfl⟩
   rw [hg0] at hnew ⊢
   have H0 := Lh hnew
   clear hnew hg0
   refine h1o 6 rfl ?_
   intro K hK
   go_simp
   refine (HPut.out _).mono ?_
   rintro e u3 ⟨A6, c6, rfl, p1, p2, p3, hgX⟩
   rw [be_length] at p1 ⊢
   refine hK.out _ _ (HV.out.then_non hgX) (fun _ => ?_)
   clear hK K
   try simp only [Act.put, sA, sB, sC]
   have H2 := Lh (H2.out.non hgX)
   have H0 := Lh (H0.out.non hgX)
   have HV := Lh (HV.out.then_non hgX)
   have H6 := Lh (And.intro p1 (And.intro p2 p3.rd))
   clear hgX p1 p2 p3
   refine h1o 7 rfl ?_
   intro K hK
   go_simp
   refine hK.out _ _ (HV.out.alloc _) (fun _ => ?_)
   clear hK K
   try simp only [Act.put, sA, sB, sC]
   have hcat := Cat3 (some ⟨g0, 0, none⟩) (some ⟨g2, 0, none⟩) A6 [128] (List.replicate z 0) (be (8 * n) 8) 1 z c6 32 u3 u3.heap.size rfl H0.out H2.out H6.out.2.2 (by simp [be_length]; omega) (shaTail n) (by rw [HR.out]; rfl)
   rw [List.length_replicate, be_length] at hcat
   have HC := Lh hcat
   clear hcat
   refine h1o 8 rfl ?_
   intro K hK
   go_simp
   refine HC.out.mono ?_
   rintro e u9 ⟨A9, c9, rfl, r1, r2, r3, r4⟩
   refine hK.out _ _ (HV.out.then_non r4) (fun _ => ?_)
   clear hK K
   try simp only [Act.put, sA, sB, sC]
   have HF := Lh (And.intro r1 (And.intro r2 (And.intro (r3.mono (HgV.out.then_non HV.out).size) (HgV.out.then_non (HV.out.then_non r4)))))
   have HV9 := Lh (HV.out.then_non r4)
   clear r1 r2 r3 r4 HC
   refine hp 9 2 (.slice A9 (shaTail n).length c9) rfl HV9.out ?_
   refine hdn ?_ _
   go_wp2_with fail
   go_ret
   exact ⟨A9, c9, rfl, HF.out⟩
  ·intro K hK
   go_simp
   refine (HPut.out _).mono ?_
   rintro e u2 ⟨A6, c6, rfl, p1, p2, p3, hgX⟩
   rw [be_length] at p1 ⊢
   refine hK.out _ _ (HV.out.then_non hgX) (fun _ => ?_)
   clear hK K
   try simp only [Act.put, sA, sB, sC]
   have H2 := Lh (H2.out.non hgX)
   have HV := Lh (HV.out.then_non hgX)
   have H6 := Lh (And.intro p1 (And.intro p2 p3.rd))
   clear hgX p1 p2 p3
   refine h1o 0 rfl ?_
   intro K hK
   go_simp
   refine hK.out _ _ (HV.out.alloc _) (fun _ => ?_)
   clear hK K
   try simp only [Act.put, sA, sB, sC]
   have hnew := (own_new u2 5 #[.int .u8 128] [128] (by rfl)).rd
   have hgX : Chg Non u2 (u2.alloc (.cells #[.int .u8 128] 5)) := (Chg.refl Non u2).alloc _
   have H2 := Lh (H2.out.non hgX)
   have H6 := Lh (And.intro H6.out.1 (And.intro H6.out.2.1 (H6.out.2.2.non hgX)))
   have HV := Lh (HV.out.then_non hgX)
   obtain ⟨u3, hU⟩ : ∃ X, u2.alloc (.cells #[.int .u8 128] 5) = X := ⟨_, rfl⟩
   rw [hU] at hnew HV ⊢
   rw [hU] at H2
   rw [hU] at H6
   clear hgX hU
   obtain ⟨g0, hg0⟩ : ∃ k, u2.heap.size = k := ⟨_, rfl⟩
   rw [hg0] at hnew ⊢
   have H0 := Lh hnew
   clear hnew hg0
   refine h1o 7 rfl ?_
   intro K hK
   go_simp
   refine hK.out _ _ (HV.out.alloc _) (fun _ => ?_)
   clear hK K
   try simp only [Act.put, sA, sB, sC]
   have hcat := Cat3 (some ⟨g0, 0, none⟩) (some ⟨g2, 0, none⟩) A6 [128] (List.replicate z 0) (be (8 * n) 8) 1 z c6 32 u3 u3.heap.size rfl H0.out H2.out H6.out.2.2 (by simp [be_length]; omega) (shaTail n) (by rw [HR.out]; rfl)
   rw [List.length_replicate, be_length] at hcat
   have HC := Lh hcat
   clear hcat
   refine h1o 8 rfl ?_
   intro K hK
   go_simp
   refine HC.out.mono ?_
   rintro e u9 ⟨A9, c9, rfl, r1, r2, r3, r4⟩
   refine hK.out _ _ (HV.out.then_non r4) (fun _ => ?_)
   clear hK K
   try simp only [Act.put, sA, sB, sC]
   have HF := Lh (And.intro r1 (And.intro r2 (And.intro (r3.mono (HgV.out.then_non HV.out).size) (HgV.out.then_non (HV.out.then_non r4)))))
   have HV9 := Lh (HV.out.then_non r4)
   clear r1 r2 r3 r4 HC
   refine hp 9 2 (.slice A9 (shaTail n).length c9) rfl HV9.out ?_
   refine hdn ?_ _
   go_wp2_with fail
   go_ret
   exact ⟨A9, c9, rfl, HF.out⟩
 ·intro K hK
  go_simp
  refine (HPut.out _).mono ?_
  rintro e u1 ⟨A6, c6, rfl, p1, p2, p3, hgX⟩
  rw [be_length] at p1 ⊢
  refine hK.out _ _ (HV.out.then_non hgX) (fun _ => ?_)
  clear hK K
  try simp only [Act.put, sA, sB, sC]
  have HV := Lh (HV.out.then_non hgX)
  have H6 := Lh (And.intro p1 (And.intro p2 p3.rd))
  clear hgX p1 p2 p3
  refine hTwo 0 2 (by kernel_rfl) rfl rfl (by kernel_rfl) (by kernel_rfl) ?_ ?_
  ·intro K hK
   go_simp
   refine hK.out _ _ (HV.out.alloc _) (fun _ => ?_)
   clear hK K
   try simp only [Act.put, sA, sB, sC]
   have hnew := (own_new u1 5 #[.int .u8 128] [128] (by rfl)).rd
   have hgX : Chg Non u1 (u1.alloc (.cells #[.int .u8 128] 5)) := (Chg.refl Non u1).alloc _
   have H6 := Lh (And.intro H6.out.1 (And.intro H6.out.2.1 (H6.out.2.2.non hgX)))
   have HV := Lh (HV.out.then_non hgX)
   obtain ⟨u2, hU⟩ : ∃ X, u1.alloc (.cells #[.int .u8 128] 5) = X := ⟨_, rfl⟩
   rw [hU] at hnew HV ⊢
   rw [hU] at H6
   clear hgX hU
   obtain ⟨g0, hg0⟩ : ∃ k, u1.heap.size = k := ⟨_, rfl⟩
   rw [hg0] at hnew ⊢
   have H0 := Lh hnew
   clear hnew hg0
   refine h1o 2 rfl ?_
   intro K hK
   go_simp
   refine hK.out _ _ (HV.out.alloc _) (fun _ => ?_)
   clear hK K
   try simp only [Act.put, sA, sB, sC]
   have hnew := (own_new u2 5 (Array.replicate z (.int .u8 0)) (List.replicate z 0) (by simp [bv])).rd
   have hgX : Chg Non u2 (u2.alloc (.cells (Array.replicate z (.int .u8 0)) 5)) := (Chg.refl Non u2).alloc _
   have H6 := Lh (And.intro H6.out.1 (And.intro H6.out.2.1 (H6.out.2.2.non hgX)))
   have H0 := Lh (H0.out.non hgX)
   have HV := Lh (HV.out.then_non hgX)
   obtain ⟨u3, hU⟩ : ∃ X, u2.alloc (.cells (Array.replicate z (.int .u8 0)) 5) = X := ⟨_, rfl⟩
   rw [hU] at hnew HV ⊢
   rw [hU] at H6
   rw [hU] at H0
   clear hgX hU
   obtain ⟨g2, hg2⟩ : ∃ k, u2.heap.size = k := ⟨_, rfl⟩
   rw [hg2] at hnew ⊢
   have H2 := Lh hnew
   clear hnew hg2
   refine h1o 7 rfl ?_
   intro K hK
   go_simp
   refine hK.out _ _ (HV.out.alloc _) (fun _ => ?_)
   clear hK K
   try simp only [Act.put, sA, sB, sC]
   have hcat := Cat3 (some ⟨g0, 0, none⟩) (some ⟨g2, 0, none⟩) A6 [128] (List.replicate z 0) (be (8 * n) 8) 1 z c6 32 u3 u3.heap.size rfl H0.out H2.out H6.out.2.2 (by simp [be_length]; omega) (shaTail n) (by rw [HR.out]; rfl)
   rw [List.length_replicate, be_length] at hcat
   have HC := Lh hcat
   clear hcat
   refine h1o 8 rfl ?_
   intro K hK
   go_simp
   refine HC.out.mono ?_
   rintro e u9 ⟨A9, c9, rfl, r1, r2, r3, r4⟩
   refine hK.out _ _ (HV.out.then_non r4) (fun _ => ?_)
   clear hK K
   try simp only [Act.put, sA, sB, sC]
   have HF := Lh (And.intro r1 (And.intro r2 (And.intro (r3.mono (HgV.out.then_non HV.out).size) (HgV.out.then_non (HV.out.then_non r4)))))
   have HV9 := Lh (HV.out.then_non r4)
   clear r1 r2 r3 r4 HC
   refine hp 9 2 (.slice A9 (shaTail n).length c9) rfl HV9.out ?_
   refine hdn ?_ _
   go_wp2_with fail
   go_ret
   exact ⟨A9, c9, rfl, HF.out⟩
  ·intro K hK
   go_simp
   refine hK.out _ _ (HV.out.alloc _) (fun _ => ?_)
   clear hK K
   try simp only [Act.put, sA, sB, sC]
   have hnew := (own_new u1 5 (Array.replicate z (.int .u8 0)) (List.replicate z 0) (by simp [bv])).rd
   have hgX : Chg Non u1 (u1.alloc (.cells (Array.replicate z (.int .u8 0)) 5)) := (Chg.refl Non u1).alloc _
   have H6 := Lh (And.intro H6.out.1 (And.intro H6.out.2.1 (H6.out.2.2.non hgX)))
   have HV := Lh (HV.out.then_non hgX)
   obtain ⟨u2, hU⟩ : ∃ X, u1.alloc (.cells (Array.replicate z (.int .u8 0)) 5) = X := ⟨_, rfl⟩
   rw [hU] at hnew HV ⊢
   rw [hU] at H6
   clear hgX hU
   obtain ⟨g2, hg2⟩ : ∃ k, u1.heap.size = k := ⟨_, rfl⟩
   rw [hg2] at hnew ⊢
   have H2 := Lh hnew
   clear hnew hg2
   refine h1o 0 rfl ?_
   intro K hK
   go_simp
   refine hK.out _ _ (HV.out.alloc _) (fun _ => ?_)
   clear hK K
   try simp only [Act.put, sA, sB, sC]
   have hnew := (own_new u2 5 #[.int .u8 128] [128] (by rfl)).rd
   have hgX : Chg Non u2 (u2.alloc (.cells #[.int .u8 128] 5)) := (Chg.refl Non u2).alloc _
   have H6 := Lh (And.intro H6.out.1 (And.intro H6.out.2.1 (H6.out.2.2.non hgX)))
   have H2 := Lh (H2.out.non hgX)
   have HV := Lh (HV.out.then_non hgX)
   obtain ⟨u3, hU⟩ : ∃ X, u2.alloc (.cells #[.int .u8 128] 5) = X := ⟨_, rfl⟩
   rw [hU] at hnew HV ⊢
   rw [hU] at H6
   rw [hU] at H2
   clear hgX hU
   obtain ⟨g0, hg0⟩ : ∃ k, u2.heap.size = k := ⟨_, rfl⟩
   rw [hg0] at hnew ⊢
   have H0 := Lh hnew
   clear hnew hg0
   refine h1o 7 rfl ?_
   intro K hK
   go_simp
   refine hK.out _ _ (HV.out.alloc _) (fun _ => ?_)
   clear hK K
   try simp only [Act.put, sA, sB, sC]
   have hcat := Cat3 (some ⟨g0, 0, none⟩) (some ⟨g2, 0, none⟩) A6 [128] (List.replicate z 0) (be (8 * n) 8) 1 z c6 32 u3 u3.heap.size rfl H0.out H2.out H6.out.2.2 (by simp [be_length]; omega) (shaTail n) (by rw [HR.out]; rfl)
   rw [List.length_replicate, be_length] at hcat
   have HC := Lh hcat
   clear hcat
   refine h1o 8 rfl ?_
   intro K hK
   go_simp
   refine HC.out.mono ?_
   rintro e u9 ⟨A9, c9, rfl, r1, r2, r3, r4⟩
   refine hK.out _ _ (HV.out.then_non r4) (fun _ => ?_)
   clear hK K
   try simp only [Act.put, sA, sB, sC]
   have HF := Lh (And.intro r1 (And.intro r2 (And.intro (r3.mono (HgV.out.then_non HV.out).size) (HgV.out.then_non (HV.out.then_non r4)))))
   have HV9 := Lh (HV.out.then_non r4)
   clear r1 r2 r3 r4 HC
   refine hp 9 2 (.slice A9 (shaTail n).length c9) rfl HV9.out ?_
   refine hdn ?_ _
   go_wp2_with fail
   go_ret
   exact ⟨A9, c9, rfl, HF.out⟩
end
section
open Go.RowKit
theorem zT_size : (tagA zTag).size = 32 := tagA_size _ zTag_len
theorem SSum_ok (A : Option Addr) (l : List UInt8) (c : Nat) (w : World) (hr : Rd w A l) (hc : l.length ≤ c) (hcm : c ≤ maxLen) (hl : l.length ≤ 800000) :
  Calls Tryz.prog 42 #[.slice A l.length c] w fun e w' => e = .returned (.agg (tagA (shaL l))) ∧ Chg Non w w' := by
 have hz8 := zero8
 have hz64 := zero64
 have HR := Lh hr
 obtain ⟨hN1, hN2⟩ := shaAll_length l
 have HTail := Lh (fun W => Tail_ok l.length (by omega) W)
 have HAll : Hid (l ++ shaTail l.length = shaAll l) := Lh rfl
 have hcn : (cutL (shaAll l) 64).length = (shaAll l).length / 64 := by rw [cutL_length, cutN_mul (by omega) hN1]
 have hd := Nat.div_add_mod (shaAll l).length 64
 have HEl : Hid (∀ i, i < (shaAll l).length / 64 → (cutL (shaAll l) 64)[i]? = some (pcL (shaAll l) 64 i) ∧ (pcL (shaAll l) 64 i).length = 64) := Lh (fun i hi => by
   refine ⟨by rw [cut_is, List.getElem?_map, List.getElem?_range (by rw [cutN_mul (by omega) hN1]; exact hi)]; rfl, ?_⟩
   rw [pcL_len]
   omega)
 have HEats : Hid (∀ k, eats (shaAll l) (k + 1) = eatL (eats (shaAll l) k) (pcL (shaAll l) 64 k)) := Lh (fun k => rfl)
 have HFin : Hid ((eats (shaAll l) ((shaAll l).length / 64)).print = shaL l) := Lh rfl
 have HOk := Lh (eats_ok (shaAll l))
 have hNl : (shaAll l).length ≤ 900000 := by omega
 have HL := Lh hl
 obtain ⟨all, hall⟩ : ∃ x, shaAll l = x := ⟨_, rfl⟩
 rw [hall] at HAll hcn hd HEl HEats HFin HOk hNl
 obtain ⟨N, hNn⟩ : ∃ N, all.length / 64 = N := ⟨_, rfl⟩
 rw [hNn] at hcn HEl HFin
 have HTl : Hid (l.length + (shaTail l.length).length = all.length) := Lh (by rw [← HAll.out, List.length_append])
 obtain ⟨tl, htl⟩ : ∃ x, shaTail l.length = x := ⟨_, rfl⟩
 rw [htl] at HTail HAll HTl
 obtain ⟨F8, hF8⟩ : ∃ x, arr hL = x := ⟨_, rfl⟩
 have HF8 : Hid (arr (eats all 0).l = F8) := Lh hF8
 have HFi := Lh (fun W => First_ok W)
 rw [hF8] at HFi
 have HF8s : Hid (F8.size = 8) := Lh (by rw [← hF8, arr_size]; rfl)
 have HF8o : Hid (F8.all (·.oneCell') = true) := Lh (by rw [← hF8]; exact arr_one _)
 obtain ⟨K64, hK64⟩ : ∃ x, arr shaK = x := ⟨_, rfl⟩
 have HK64 := Lh hK64
 have HCo := Lh (fun W => Consts_ok W)
 rw [hK64] at HCo
 have HKs : Hid (K64.size = 64) := Lh (by rw [← hK64, arr_size]; rfl)
 have HKo : Hid (K64.all (·.oneCell') = true) := Lh (by rw [← hK64]; exact arr_one _)
 obtain ⟨Z8, hZ8⟩ : ∃ Z, arr (fst hL 0) = Z := ⟨_, rfl⟩
 obtain ⟨Z64, hZ64⟩ : ∃ Z, arr (fst shaK 0) = Z := ⟨_, rfl⟩
 rw [hZ8] at hz8
 rw [hZ64] at hz64
 have HZ8 : Hid (Z8.size = 8) := Lh (by rw [← hZ8]; exact z8_size)
 have HZ64 : Hid (Z64.size = 64) := Lh (by rw [← hZ64]; exact z64_size)
 have hzt : tagA zTag = #[.int .u8 0, .int .u8 0, .int .u8 0, .int .u8 0, .int .u8 0, .int .u8 0, .int .u8 0, .int .u8 0, .int .u8 0, .int .u8 0, .int .u8 0, .int .u8 0, .int .u8 0, .int .u8 0, .int .u8 0, .int .u8 0, .int .u8 0, .int .u8 0, .int .u8 0, .int .u8 0, .int .u8 0, .int .u8 0, .int .u8 0, .int .u8 0, .int .u8 0, .int .u8 0, .int .u8 0, .int .u8 0, .int .u8 0, .int .u8 0, .int .u8 0, .int .u8 0] := rfl
 obtain ⟨ZT, hZT⟩ : ∃ Z, tagA zTag = Z := ⟨_, rfl⟩
 have HZT : Hid (ZT.size = 32) := Lh (by rw [← hZT]; exact zT_size)
 rw [hZT] at hzt
 clear hall hNn htl hF8 hK64 hZ8 hZ64 hZT hr hN1 hN2 hl
 go_enter Tryz.func42, Tryz.ntmps42
 go_wp2_with (first | rw [← hzt] | fail)
 refine (HFi.out _).mono ?_
 rintro e w1 ⟨rfl, hg1⟩
 go_wp2_with fail
 refine (HCo.out _).mono ?_
 rintro e w2 ⟨rfl, hg2⟩
 obtain ⟨b2, hb2⟩ : ∃ x, w.heap.size = x := ⟨_, rfl⟩
 have HB2 := Lh (blk_keep (blk_keep (blk_new w (.cells ZT 23)) hg1 (fun e => e)) hg2 (fun e => e))
 have HG2 := Lh ((((Chg.refl Non w).alloc (.cells ZT 23)).then_non hg1).then_non hg2)
 rw [hb2] at HB2 ⊢
 clear hg1 hg2
 obtain ⟨s, hs⟩ : ∃ x, w2.heap.size = x := ⟨_, rfl⟩
 have q0 := al_2_0 w2 (.cells Z8 162) (.cells Z64 164)
 have q1 := al_2_1 w2 (.cells Z8 162) (.cells Z64 164)
 have HGa : Hid (Chg Non w ((w2.alloc (.cells Z8 162)).alloc (.cells Z64 164))) := Lh ((HG2.out.alloc _).alloc _)
 have HBa := Lh (blk_keep HB2.out (((Chg.refl Non w2).alloc (.cells Z8 162)).alloc (.cells Z64 164)) (fun e => e))
 have hlb2 := blk_lt HB2.out
 rw [hs] at q0 q1 hlb2
 have HQ0 := Lh q0
 have HQ1 := Lh q1
 clear q0 q1
 go_wp2_with (first
   | rw [← hz8]
   | rw [← hz64]
   | (refine sel none (.store 162 (.tmp 3) (.tmp 7)) ?_
      refine wpList_store_rowA rfl 162 (.tmp 3) (.tmp 7) rfl s F8 rfl rfl 162 _ HQ0.out (by rw [HF8s.out]; kernel_rfl) (HZ8.out.trans HF8s.out.symm) HF8o.out ?_
      intro W1 hgW1 hbW1)
   | (refine sel none (.store 164 (.tmp 4) (.tmp 8)) ?_
      refine wpList_store_rowA rfl 164 (.tmp 4) (.tmp 8) rfl (s + 1) K64 rfl rfl 164 _ (blk_keep HQ1.out hgW1 (fun e => by have e : s + 1 = s := e; omega)) (by rw [HKs.out]; kernel_rfl) (HZ64.out.trans HKs.out.symm) HKo.out ?_
      intro W2 hgW2 hbW2))
 have HS1 := Lh (blk_keep hbW1 hgW2 (fun e => by have e : s = s + 1 := e; omega))
 have HS2 := Lh hbW2
 have HGb : Hid (Chg Non w W2) := Lh ((HGa.out.then_new hgW1 (fun x e => by have e : x = s := e; omega)).then_new hgW2 (fun x e => by have e : x = s + 1 := e; omega))
 have HBb := Lh (blk_keep (blk_keep HBa.out hgW1 (fun e => by have e : b2 = s := e; omega)) hgW2 (fun e => by have e : b2 = s + 1 := e; omega))
 clear hgW1 hbW1 hgW2 hbW2 HQ0 HQ1 HGa HBa hz8 hz64 hzt
 refine (HTail.out _).mono ?_
 rintro e w3 ⟨A3, c3, rfl, p1, p2, p3, p4⟩
 have HS1a := Lh (blk_keep HS1.out p4 (fun e => e))
 have HS2a := Lh (blk_keep HS2.out p4 (fun e => e))
 have HBc := Lh (blk_keep HBb.out p4 (fun e => e))
 have HGc := Lh (HGb.out.then_non p4)
 have HT3 := Lh p3.rd
 clear p3 p4 HS1 HS2 HBb HGb
 go_wp2_with fail
 refine (Cat2 A A3 l tl c c3 32 w3 w3.heap.size rfl (HR.out.non HGc.out) HT3.out (by have := HL.out; have := HTl.out; omega) all HAll.out).mono ?_
 rintro e w4 ⟨A4, c4, rfl, r1, r2, r3, r4⟩
 have HS1 := Lh (blk_keep HS1a.out r4 (fun e => e))
 have HS2 := Lh (blk_keep HS2a.out r4 (fun e => e))
 have HBb := Lh (blk_keep HBc.out r4 (fun e => e))
 have HGb := Lh (HGc.out.then_non r4)
 have HR4 := Lh r3.rd
 clear r3 r4 HS1a HS2a HBc HGc
 go_wp2_with fail
 refine (Cut_ok A4 all c4 64 w4 HR4.out r1 r2 (by omega) (by omega) hNl).mono ?_
 rintro e w5 ⟨v, rfl, ho, hg5⟩
 obtain ⟨A5, c5, rfl, hc5, hcm5, hrd⟩ := ho.rd
 have HGe := Lh (fun g e => (ho.ge (g := g) e).1)
 have HRd := Lh hrd
 have HS1a := Lh (blk_keep HS1.out hg5 (fun e => e))
 have HS2a := Lh (blk_keep HS2.out hg5 (fun e => e))
 have HBc := Lh (blk_keep HBb.out hg5 (fun e => e))
 have HGc := Lh (HGb.out.then_non hg5)
 have hs4 := blk_lt HS2.out
 have hs5 := hg5.size
 clear hg5 hrd ho HS1 HS2 HBb HGb r1 r2
 rw [hcn]
 rw [hcn] at hc5
 unfold maxLen at hcm5
 go_wp2_with fail
 go_loopw [17] (fun iv wr => ∃ k : Nat, k ≤ N ∧ iv = .int .i64 k ∧ Hid (wr.heap[s]? = some (.cells (arr (eats all k).l) 162 (0, 0))) ∧ Hid (Chg (fun k => k = s) w5 wr)) (fun iv _ => N - (intOf iv).toNat)
 case atStart => exact ⟨0, Nat.zero_le _, rfl, by rw [HF8.out]; exact HS1a, Lh (Chg.refl _ _)⟩
 case round =>
  obtain ⟨k, hk, rfl, HB, HG⟩ := hrel
  by_cases hlt : k < N
  ·obtain ⟨b0, o, vs, rfl, hbI, _, hcell, m, rfl, ⟨A6, c6, rfl, q1, q2, q3, q4⟩, _⟩ := HRd.out k _ (HEl.out k hlt).1
   have hpl := (HEl.out k hlt).2
   rw [hpl] at q1 hcell
   have hb2' := HGe.out b0 hbI
   have k0 : wr.cell? ⟨b0, o + k, none⟩ = some (.slice A6 64 c6) := by
    have := HG.out.cell_some (hcell 0 _ rfl) (fun e => by have e : b0 = s := e; omega)
    rwa [Nat.mul_one, Nat.add_zero] at this
   have HE := Lh (Eat_ok (eats all k) (HOk.out k) A6 (pcL all 64 k) c6 wr (q3.keep HG.out (fun b2 o2 e hl e2 => by have e2 : b2 = s := e2; have := (q4 b2 o2 e hl).1; omega)) hpl q1 q2)
   rw [HK64.out] at HE
   have HK2 := Lh (blk_keep HS2a.out HG.out (fun e => by have e : s + 1 = s := e; omega))
   have HN1 := Lh (congrArg (fun x => arr (St.l x)) (HEats.out k))
   obtain ⟨X, hX⟩ : ∃ X, arr (eats all k).l = X := ⟨_, rfl⟩
   have HXs : Hid (X.size = 8) := Lh (by rw [← hX, arr_size]; rfl)
   rw [hX] at HE HB
   obtain ⟨Y, hY⟩ : ∃ Y, arr (eatL (eats all k) (pcL all 64 k)).l = Y := ⟨_, rfl⟩
   have HYs : Hid (Y.size = 8) := Lh (by rw [← hY, arr_size]; rfl)
   have HYo : Hid (Y.all (·.oneCell') = true) := Lh (by rw [← hY]; exact arr_one _)
   have HN2 : Hid (arr (eats all (k + 1)).l = Y) := Lh (by rw [← hY]; exact HN1.out)
   rw [hY] at HE
   clear hX hY hcell q3 q4 HN1
   go_wp2_with (first
     | (refine sel (some 21) (.load 162 (.tmp 3)) ?_; refine wpList_load_row rfl 162 (.tmp 3) rfl s rfl 162 X (0, 0) _ HB.out Tryz.underlying162 rfl (by rw [HXs.out]; kernel_rfl) ?_)
     | (refine sel (some 23) (.load 164 (.tmp 4)) ?_; refine wpList_load_row rfl 164 (.tmp 4) rfl (s + 1) rfl 164 K64 (0, 0) _ HK2.out Tryz.underlying164 rfl (by rw [HKs.out]; kernel_rfl) ?_))
   refine HE.out.mono ?_
   rintro e u ⟨rfl, hgu⟩
   have HBu := Lh (blk_keep HB.out hgu (fun e => e))
   have HGu := Lh (HG.out.then_non hgu)
   clear hgu
   go_wp2_with (first
     | (refine sel none (.store 162 (.tmp 3) (.tmp 24)) ?_
        refine wpList_store_rowA rfl 162 (.tmp 3) (.tmp 24) rfl s Y rfl rfl 162 _ HBu.out (by rw [HYs.out]; kernel_rfl) (HXs.out.trans HYs.out.symm) HYo.out ?_
        intro W9 hgW9 hbW9))
   go_roundw
   case rel => exact ⟨k + 1, by omega, by go_num, Lh (by rw [HN2.out]; exact hbW9), Lh (HGu.out.trans_same hgW9)⟩
   case measure => simp [intOf]; omega
  ·obtain rfl : k = N := by omega
   have HP := Lh (fun W => SPrint_ok (eats all k) (HOk.out k) W)
   rw [HFin.out] at HP
   obtain ⟨X, hX⟩ : ∃ X, arr (eats all k).l = X := ⟨_, rfl⟩
   have HXs : Hid (X.size = 8) := Lh (by rw [← hX, arr_size]; rfl)
   rw [hX] at HP HB
   clear hX
   have HBr := Lh (blk_keep HBc.out HG.out (fun e => by have e : b2 = s := e; omega))
   have HRs : Hid ((tagA (shaL l)).size = 32) := Lh (tagA_size _ (shaL_length l))
   obtain ⟨R, hRr⟩ : ∃ R, tagA (shaL l) = R := ⟨_, rfl⟩
   have HRo : Hid (R.all (·.oneCell') = true) := Lh (by rw [← hRr]; exact tagA_one _)
   have HRe := Lh hRr
   rw [hRr] at HP HRs
   clear hRr
   go_wp2_with (first
     | (refine sel (some 26) (.load 162 (.tmp 3)) ?_; refine wpList_load_row rfl 162 (.tmp 3) rfl s rfl 162 X (0, 0) _ HB.out Tryz.underlying162 rfl (by rw [HXs.out]; kernel_rfl) ?_))
   refine (HP.out _).mono ?_
   rintro e u ⟨rfl, hgu⟩
   have HBu := Lh (blk_keep HBr.out hgu (fun e => e))
   have HGu : Hid (Chg Non w u) := Lh ((HGc.out.then_new HG.out (fun x e => by have e : x = s := e; have := HG2.out.size; omega)).then_non hgu)
   clear hgu
   go_wp2_with (first
     | (refine sel none (.store 23 (.tmp 2) (.tmp 27)) ?_
        refine wpList_store_rowA rfl 23 (.tmp 2) (.tmp 27) rfl b2 R rfl rfl 23 _ HBu.out (by rw [HRs.out]; exact info_tagS) (HZT.out.trans HRs.out.symm) HRo.out ?_
        intro W1 hgW1 hbW1))
   refine bodyPost_ret (results_cell_row Tryz.results42 _ _ b2 23 R (0, 0) _ rfl hbW1 Tryz.underlying23 rfl (by rw [HRs.out]; exact info_tagS)) rfl ⟨by rw [HRe.out], ?_⟩
   exact HGu.out.then_new hgW1 (fun x e => by have e : x = b2 := e; omega)
end
section
open Go.RowKit Go.Shelf
structure FmR (w : World) (p : Option Addr) (m : Mf) (C : Array Value) (a b d : Value) (s : Nat) (W : World) : Prop where
 ptr : W.heap[s]? = some (.cells #[.pointer p] 36 (0, 0))
 man : W.heap[s + 1]? = some (.cells C 30 (0, 0))
 res : W.heap[s + 2]? = some (.cells choZ 48 (0, 0))
 g : Chg Non w W
theorem FmR.non {w W W' : World} {p : Option Addr} {m : Mf} {C : Array Value} {a b d : Value} {s : Nat} (h : FmR w p m C a b d s W) (hg : Chg Non W W') : FmR w p m C a b d s W' :=
 ⟨blk_keep h.ptr hg (fun e => e), blk_keep h.man hg (fun e => e), blk_keep h.res hg (fun e => e), h.g.then_non hg⟩
theorem fmt_nil (I : Nat → Prop) (p : Option Addr) (w : World) (m : Mf) (A1 A2 A3 : Option Addr) (c1 c2 c3 : Nat) (C : Array Value) (h : MfR I w m A1 A2 A3 c1 c2 c3 C) (hI : ∀ b, I b → b < w.heap.size)
  (hp : ∀ W, Chg Non w W → Calls Tryz.prog 60 #[.pointer p] W fun e w' => e = .returned (.int .i64 0) ∧ W = w') :
  Calls Tryz.prog 19 #[.pointer p, .agg C] w fun e w' => e = .returned (.tuple #[.agg choZ, .int .i64 1]) ∧ Chg Non w w' := by
 have HPr : Hid (∀ W, Chg Non w W → Calls Tryz.prog 40 #[.agg C] W fun e w' => (∃ A n c z, e = .returned (.tuple #[.slice A n c, .int .i64 z])) ∧ Chg Non W w') := Lh (fun W hg => by
   cases hm : canM m with
   | true => exact (mprint_ok I W m A1 A2 A3 c1 c2 c3 C (h.non hg) (fun b hb => by have := hI b hb; have := hg.size; omega) hm).mono (fun e w' ⟨A, k, h1, _, _, _, h2⟩ => ⟨⟨_, _, _, _, h1⟩, h2⟩)
   | false => exact (mprint_no I W m A1 A2 A3 c1 c2 c3 C (h.non hg) hm).mono (fun e w' ⟨h1, h2⟩ => ⟨⟨_, _, _, _, h1⟩, h2⟩))
 have HSz := Lh h.cells.size
 have HL := Lh hp
 clear h hI hp
 obtain ⟨s, hs⟩ : ∃ s, w.heap.size = s := ⟨_, rfl⟩
 have H0 : ∀ z, z = choZ → FmR w p m C (.int .i64 0) (.int .i64 0) (.int .i64 0) s (((w.alloc (.cells #[.pointer p] 36)).alloc (.cells C 30)).alloc (.cells z 48)) := fun z hz => by
  subst hs hz
  exact ⟨al_3_0 _ _ _ _, al_3_1 _ _ _ _, al_3_2 _ _ _ _, (((Chg.refl Non w).alloc _).alloc _).alloc _⟩
 have H0 := Lh H0
 have HE := Lh hs
 clear hs
 go_enter Tryz.func19, Tryz.ntmps19
 go_wp2_with (refine sel (some 11) (.load 30 (.tmp 3)) ?_; refine wpList_load_row rfl 30 (.tmp 3) rfl (w.heap.size + 1) rfl 30 C (0, 0) _ (al_3_1 _ _ _ _) Tryz.underlying30 rfl (by rw [HSz.out]; kernel_rfl) ?_)
 have hF := H0.out _ (show Tryz.zeroCells48 = choZ by kernel_rfl)
 refine (HPr.out _ hF.g).mono ?_
 rintro e w1 ⟨⟨A, n, c, z, rfl⟩, hg1⟩
 have HF1 := Lh (hF.non hg1)
 have k0 := blk_cell (HF1.out.non ((Chg.refl Non w1).alloc (.cells #[.slice A n c] 32))).ptr 0 (v := .pointer p) rfl
 rw [HE.out]
 clear hF hg1 H0
 go_wp2_with fail
 have hF2 := HF1.out.non ((Chg.refl Non w1).alloc (.cells #[.slice A n c] 32))
 refine (HL.out _ hF2.g).mono ?_
 rintro e ux ⟨rfl, rfl⟩
 have HF2 := Lh hF2
 clear hF2
 go_wp2_with (first
   | (refine sel (some 19) (.build 48 #[]) ?_
      refine wpList_pureW (some 19) (.agg choZ) rfl (by kernel_rfl) (by kernel_rfl) ?_)
   | (refine sel none (.store 48 (.tmp 4) (.tmp 19)) ?_
      refine wpList_store_rowA rfl 48 (.tmp 4) (.tmp 19) rfl (s + 2) choZ rfl rfl 48 _ HF2.out.res info_cho rfl choZ_one ?_
      intro v3 k1 k2
      have HA3 := Lh k2
      have HG4 := Lh (HF2.out.g.then_new k1 (fun x e => by have := HE.out; omega))
      clear k1 k2))
 refine bodyPost_ret (results_ct Tryz.results19 _ _ (s + 2) 48 choZ (0, 0) _ (.int .i64 1) (by kernel_rfl) (by kernel_rfl) HA3.out Tryz.underlying48 rfl info_cho) (by kernel_rfl) ⟨rfl, HG4.out⟩
theorem row_fail (a : Nat) (f2 f3 : Value) (caps : Array Value) (e : Int) (w : World) (he : e ≠ 0) (hr : w.heap[a]? = some (.cells #[.func (.func 63) #[] caps, f2, f3] 98 (0, 0)))
  (hf : Calls Tryz.prog 63 caps w fun x w' => x = .returned (.int .i64 e) ∧ Chg Non w w') :
  Calls Tryz.prog 62 #[.slice (some ⟨a, 0, none⟩) 3 3] w fun x w' => x = .returned (.int .i64 e) ∧ Chg Non w w' := by
 have HF := Lh hf
 have hb : (e != 0) = true := by simpa using he
 have k0 := blk_cell hr 0 (v := .func (.func 63) #[] caps) rfl
 clear hf he hr
 go_enter Tryz.func62, Tryz.ntmps62
 go_wp2_with fail
 refine wp_loop_rounds 1 ?_
 rw [rounds_succ]
 go_wp2_with fail
 have hcp : #[] ++ caps = caps := by simp
 try rw [hcp]
 refine HF.out.mono ?_
 rintro x w1 ⟨rfl, hg⟩
 have HG := Lh hg
 clear hg
 go_wp2
 go_ret
 exact ⟨rfl, HG.out⟩
end
section
open Go.RowKit Go.Shelf
theorem fold_sh (o : Nat) (L : List Value) (j : Nat) (C : Array Value) (i : Nat) :
  (List.foldl (fun (cs : Array Value) (x : Value × Nat) => cs.setIfInBounds (o + x.2) x.1) C (L.zipIdx j))[i]? = if o + j ≤ i ∧ i < o + j + L.length ∧ i < C.size then L[i - (o + j)]? else C[i]? := by
 induction L generalizing j C with
 | nil => simp; omega
 | cons v r ih =>
  rw [List.zipIdx_cons, List.foldl_cons, ih]
  simp only [Array.size_setIfInBounds, List.length_cons]
  by_cases h1 : o + (j + 1) ≤ i ∧ i < o + (j + 1) + r.length ∧ i < C.size
  ·rw [if_pos h1, if_pos (by omega), show i - (o + j) = (i - (o + (j + 1))) + 1 by omega, List.getElem?_cons_succ]
  ·rw [if_neg h1, Array.getElem?_setIfInBounds]
   by_cases h2 : o + j = i
   ·subst h2
    by_cases h3 : o + j < C.size
    ·rw [if_pos rfl, if_pos h3, if_pos (by omega), Nat.sub_self]; rfl
    ·rw [if_pos rfl, if_neg h3, if_neg (by omega), Array.getElem?_eq_none (by omega)]
   ·rw [if_neg h2, if_neg (by omega)]
theorem fold_rec (x0 x1 x2 x3 : Value) (T : Array Value) (h : T.size = 32) : Array.foldl (fun (cs : Array Value) (x : Value × Nat) => cs.setIfInBounds (4 + x.2) x.1) #[x0, x1, x2, x3, .int .u8 0, .int .u8 0, .int .u8 0, .int .u8 0, .int .u8 0, .int .u8 0, .int .u8 0, .int .u8 0, .int .u8 0, .int .u8 0, .int .u8 0, .int .u8 0, .int .u8 0, .int .u8 0, .int .u8 0, .int .u8 0, .int .u8 0, .int .u8 0, .int .u8 0, .int .u8 0, .int .u8 0, .int .u8 0, .int .u8 0, .int .u8 0, .int .u8 0, .int .u8 0, .int .u8 0, .int .u8 0, .int .u8 0, .int .u8 0, .int .u8 0, .int .u8 0] T.zipIdx 0 32 = #[x0, x1, x2, x3] ++ T := by
 have e : 32 = T.zipIdx.size := by simp [h]
 rw [e, ← Array.foldl_toList, Array.toList_zipIdx]
 apply Array.ext_getElem?
 intro i
 rw [fold_sh, Array.length_toList, h]
 by_cases hi : i < 4
 ·rw [if_neg (by omega), Array.getElem?_append_left (by simpa using hi)]
  have hc : i = 0 ∨ i = 1 ∨ i = 2 ∨ i = 3 := by omega
  rcases hc with rfl | rfl | rfl | rfl <;> rfl
 ·rw [Array.getElem?_append_right (by simp; omega)]
  by_cases h2 : i < 36
  ·rw [if_pos ⟨by omega, by omega, by simpa using h2⟩, Array.getElem?_toList]; rfl
  ·rw [if_neg (by omega), Array.getElem?_eq_none (by simp; omega), Array.getElem?_eq_none (by simp; omega)]
theorem fm1_small (pd ps pm : Nat) (D : Dk) (A : Option Addr) (n c a b : Nat) (w : World) (h : IsD w pd ps pm D) (hup : D.up = true) (hlen : D.sec.length = 1) (hn1 : 1 ≤ n) (hn2 : n ≤ 4096)
  (ha : w.heap[a]? = some (.cells #[.pointer (some ⟨pd, 0, none⟩)] 36 (0, 0))) (hb : w.heap[b]? = some (.cells #[.slice A n c] 32 (0, 0))) :
  Calls Tryz.prog 63 #[.pointer (some ⟨a, 0, none⟩), .pointer (some ⟨b, 0, none⟩)] w fun x w' => x = .returned (.int .i64 61) ∧ Chg Non w w' := by
 have H := Lh (slW_small pd ps pm D A n c w h hup hlen hn1 hn2)
 have k0 := blk_cell ha 0 (v := .pointer (some ⟨pd, 0, none⟩)) rfl
 have k1 := blk_cell hb 0 (v := .slice A n c) rfl
 clear h hup hlen ha hb
 go_enter Tryz.func63, Tryz.ntmps63
 go_wp2_with fail
 refine H.out.mono ?_
 rintro x w1 ⟨rfl, hg⟩
 have HG := Lh hg
 clear hg
 go_wp2
 go_ret
 exact ⟨rfl, HG.out⟩
theorem fmt_small (I : Nat → Prop) (pd ps pm : Nat) (D : Dk) (w : World) (m : Mf) (A1 A2 A3 : Option Addr) (c1 c2 c3 : Nat) (C : Array Value) (h : MfR I w m A1 A2 A3 c1 c2 c3 C) (hI : ∀ b, I b → b < w.heap.size)
  (hD : IsD w pd ps pm D) (hup : D.up = true) (hlen : D.sec.length = 1) :
  Calls Tryz.prog 19 #[.pointer (some ⟨pd, 0, none⟩), .agg C] w fun e w' => (∃ z : Int, (z = 61 ∨ z = 2) ∧ e = .returned (.tuple #[.agg choZ, .int .i64 z])) ∧ Chg Non w w' := by
 have HSz := Lh h.cells.size
 have HL := Lh (fun W hg => Len_ok pd ps pm D W (hD.non hg))
 rw [hlen] at HL
 have HFm := Lh (fun W hg A n c a b => fm1_small pd ps pm D A n c a b W (hD.non hg) hup hlen)
 obtain ⟨s, hs⟩ : ∃ s, w.heap.size = s := ⟨_, rfl⟩
 have H0 : ∀ z, z = choZ → FmR w (some ⟨pd, 0, none⟩) m C (.int .i64 0) (.int .i64 0) (.int .i64 0) s (((w.alloc (.cells #[.pointer (some ⟨pd, 0, none⟩)] 36)).alloc (.cells C 30)).alloc (.cells z 48)) := fun z hz => by
  subst hs hz
  exact ⟨al_3_0 _ _ _ _, al_3_1 _ _ _ _, al_3_2 _ _ _ _, (((Chg.refl Non w).alloc _).alloc _).alloc _⟩
 have H0 := Lh H0
 have HE := Lh hs
 cases hm : canM m with
 | false =>
  have HPr := Lh (fun W hg => mprint_no I W m A1 A2 A3 c1 c2 c3 C (h.non hg) hm)
  clear hs h hI hD hup hlen HFm
  go_enter Tryz.func19, Tryz.ntmps19
  go_wp2_with (refine sel (some 11) (.load 30 (.tmp 3)) ?_; refine wpList_load_row rfl 30 (.tmp 3) rfl (w.heap.size + 1) rfl 30 C (0, 0) _ (al_3_1 _ _ _ _) Tryz.underlying30 rfl (by rw [HSz.out]; kernel_rfl) ?_)
  have hF := H0.out _ (show Tryz.zeroCells48 = choZ by kernel_rfl)
  refine (HPr.out _ hF.g).mono ?_
  rintro e w1 ⟨rfl, hg1⟩
  have HF1 := Lh (hF.non hg1)
  have k0 := blk_cell (HF1.out.non ((Chg.refl Non w1).alloc (.cells #[.slice none 0 0] 32))).ptr 0 (v := .pointer (some ⟨pd, 0, none⟩)) rfl
  rw [HE.out]
  clear hF hg1 H0
  go_wp2_with fail
  have hF2 := HF1.out.non ((Chg.refl Non w1).alloc (.cells #[.slice none 0 0] 32))
  refine (HL.out _ hF2.g).mono ?_
  rintro e ux ⟨rfl, rfl⟩
  have HF2 := Lh hF2
  clear hF2
  go_wp2_with (first
    | (refine sel (some 29) (.build 48 #[]) ?_
       refine wpList_pureW (some 29) (.agg choZ) rfl (by kernel_rfl) (by kernel_rfl) ?_)
    | (refine sel none (.store 48 (.tmp 4) (.tmp 29)) ?_
       refine wpList_store_rowA rfl 48 (.tmp 4) (.tmp 29) rfl (s + 2) choZ rfl rfl 48 _ HF2.out.res info_cho rfl choZ_one ?_
       intro v3 k1 k2
       have HA3 := Lh k2
       have HG4 := Lh (HF2.out.g.then_new k1 (fun x e => by have := HE.out; omega))
       clear k1 k2))
  refine bodyPost_ret (results_ct Tryz.results19 _ _ (s + 2) 48 choZ (0, 0) _ (.int .i64 2) (by kernel_rfl) (by kernel_rfl) HA3.out Tryz.underlying48 rfl info_cho) (by kernel_rfl) ⟨⟨2, .inr rfl, rfl⟩, HG4.out⟩
 | true =>
  have HPr := Lh (fun W hg => mprint_ok I W m A1 A2 A3 c1 c2 c3 C (h.non hg) (fun b hb => by have := hI b hb; have := Chg.size hg; omega) hm)
  have HLn := Lh (formM_len h.bd hm)
  obtain ⟨l, hl⟩ : ∃ l, formM m = l := ⟨_, rfl⟩
  rw [hl] at HPr HLn
  have HFt := Lh (fun W hg => fits_ok I W m.cfg A1 A2 A3 c1 c2 c3 (h.cfg.non hg) (by have := (canC_bd (canM_cfg hm)).2.1; omega))
  have HAt := Lh (fun (W : World) (hb : W.heap[s + 1]? = some (.cells C 30 (0, 0))) => h.cells.at_ hb)
  clear hs h hI hD hup hlen hl
  go_enter Tryz.func19, Tryz.ntmps19
  go_wp2_with (refine sel (some 11) (.load 30 (.tmp 3)) ?_; refine wpList_load_row rfl 30 (.tmp 3) rfl (w.heap.size + 1) rfl 30 C (0, 0) _ (al_3_1 _ _ _ _) Tryz.underlying30 rfl (by rw [HSz.out]; kernel_rfl) ?_)
  have hF := H0.out _ (show Tryz.zeroCells48 = choZ by kernel_rfl)
  refine (HPr.out _ hF.g).mono ?_
  rintro e w1 ⟨A, c, rfl, p1, p2, p3, hg1⟩
  have HF1 := Lh (hF.non hg1)
  have HM := Lh (And.intro p1 (And.intro p2 p3.rd))
  have hF2 := HF1.out.non ((Chg.refl Non w1).alloc (.cells #[.slice A l.length c] 32))
  have HB2 := Lh (blk_new w1 (.cells #[.slice A l.length c] 32))
  have k0 := blk_cell hF2.ptr 0 (v := .pointer (some ⟨pd, 0, none⟩)) rfl
  have hat := HAt.out _ hF2.man
  have k34 := hat.c34
  have k35 := hat.c35
  have k36 := hat.c36
  have HM2 := Lh (HM.out.2.2.non ((Chg.refl Non w1).alloc (.cells #[.slice A l.length c] 32)))
  rw [HE.out]
  clear hF hg1 H0 hat p1 p2 p3
  go_wp2_with fail
  refine (HL.out _ hF2.g).mono ?_
  rintro e ux ⟨rfl, rfl⟩
  have HF2 := Lh hF2
  clear hF2
  go_wp2_with fail
  refine (HFt.out _ HF2.out.g).mono ?_
  rintro e w2 ⟨rfl, hg2⟩
  have HF3 := Lh (HF2.out.non hg2)
  have HB3 := Lh (blk_keep HB2.out hg2 (fun e => e))
  have HM3 := Lh (HM2.out.non hg2)
  clear hg2 k0 k34 k35 k36
  cases hft : fitsB m.cfg with
  | false =>
   go_wp2_with (first
     | (refine sel (some 29) (.build 48 #[]) ?_
        refine wpList_pureW (some 29) (.agg choZ) rfl (by kernel_rfl) (by kernel_rfl) ?_)
     | (refine sel none (.store 48 (.tmp 4) (.tmp 29)) ?_
        refine wpList_store_rowA rfl 48 (.tmp 4) (.tmp 29) rfl (s + 2) choZ rfl rfl 48 _ HF3.out.res info_cho rfl choZ_one ?_
        intro v3 k1 k2
        have HA3 := Lh k2
        have HG4 := Lh (HF3.out.g.then_new k1 (fun x e => by have := HE.out; omega))
        clear k1 k2))
   refine bodyPost_ret (results_ct Tryz.results19 _ _ (s + 2) 48 choZ (0, 0) _ (.int .i64 2) (by kernel_rfl) (by kernel_rfl) HA3.out Tryz.underlying48 rfl info_cho) (by kernel_rfl) ⟨⟨2, .inr rfl, rfl⟩, HG4.out⟩
  | true =>
   go_wp2_with fail
   obtain ⟨t, ht⟩ : ∃ t, w1.heap.size = t := ⟨_, rfl⟩
   rw [ht] at HB3 ⊢
   have hts : s + 2 < t := by have := blk_lt HF1.out.res; omega
   have HMc := Lh (And.intro HM.out.1 HM.out.2.1)
   clear ht HB2 HM2 HM HF2 HF1
   have HSm := Lh (fun W (hr : Rd W A l) h1 h2 => SSum_ok A l c W hr h1 h2 (by have := HLn.out; omega))
   obtain ⟨T, hT⟩ : ∃ T, tagA (shaL l) = T := ⟨_, rfl⟩
   have HTs : Hid (T.size = 32) := Lh (by rw [← hT]; exact tagA_size _ (shaL_length l))
   rw [hT] at HSm
   refine wp_region_held_drew (S := fun W => FmR w (some ⟨pd, 0, none⟩) m C (.int .i64 0) (.int .i64 0) (.int .i64 0) s W ∧ W.heap[t]? = some (.cells #[.slice A l.length c] 32 (0, 0)) ∧ Rd W A l ∧ (l.length ≤ c ∧ c ≤ maxLen)) (by kernel_rfl) ⟨HF3.out.non ((Chg.refl Non w2).drew), HB3.out, HM3.out.non ((Chg.refl Non w2).drew), HMc.out⟩ (fun hS => ?_)
   obtain ⟨u0, hu0⟩ : ∃ u, u = w2.drew := ⟨_, rfl⟩
   rw [← hu0] at hS ⊢
   clear hu0
   have HS := Lh hS
   clear hS HF3 HB3 HM3
   refine hp 0 30 (.slice A l.length c) rfl HS.out ?_ (he := (fun W e => by have := blk_cell e.2.1 0 (v := .slice A l.length c) rfl; go_simp))
   refine hp 1 31 (.int .i64 (l.length : Nat)) rfl HS.out ?_ (he := (fun W e => by go_simp))
   refine hp 2 32 (.slice A l.length c) rfl HS.out ?_ (he := (fun W e => by have := blk_cell e.2.1 0 (v := .slice A l.length c) rfl; go_simp))
   have HSk2 : Hid (∀ U V W, (FmR w (some ⟨pd, 0, none⟩) m C (.int .i64 0) (.int .i64 0) (.int .i64 0) s U ∧ U.heap[t]? = some (.cells #[.slice A l.length c] 32 (0, 0)) ∧ Rd U A l ∧ (l.length ≤ c ∧ c ≤ maxLen)) → Chg Non U V → Chg (fun k => k = U.heap.size) V W → FmR w (some ⟨pd, 0, none⟩) m C (.int .i64 0) (.int .i64 0) (.int .i64 0) s W ∧ W.heap[t]? = some (.cells #[.slice A l.length c] 32 (0, 0)) ∧ Rd W A l ∧ (l.length ≤ c ∧ c ≤ maxLen)) := Lh (fun U V W h hg h1 => by
     have hg2 : Chg Non U W := hg.then_new h1 (fun x e => by omega)
     exact ⟨h.1.non hg2, blk_keep h.2.1 hg2 (fun e => e), h.2.2.1.non hg2, h.2.2.2⟩)
   have HSk := Lh (fun U W h h1 => HSk2.out U (U.alloc (.cells recZ 46)) W h ((Chg.refl Non U).alloc _) h1)
   obtain ⟨R, hR⟩ : ∃ R : Array Value, #[Value.int .i64 1, .int .i64 0, .int .i64 (l.length : Nat), .bool false] ++ T = R := ⟨_, rfl⟩
   have HRs : Hid (R.size = 36 ∧ R.all (·.oneCell') = true) := Lh (by
     subst hR
     refine ⟨by rw [Array.size_append, HTs.out]; rfl, ?_⟩
     rw [Array.all_append, ← hT, Bool.and_eq_true]
     exact ⟨by simp [Value.oneCell'], tagA_one _⟩)
   have HFo := Lh (fun L => fold_rec (.int .i64 1) (.int .i64 0) (.int .i64 L) (.bool false) T HTs.out)
   refine hTwo 3 5 (by kernel_rfl) rfl rfl (by kernel_rfl) (by kernel_rfl) ?_ ?_
   ·intro K hK
    go_simp
    refine (HSm.out _ HS.out.2.2.1 HS.out.2.2.2.1 HS.out.2.2.2.2).mono ?_
    rintro e u ⟨rfl, hg⟩
    have HS := Lh (And.intro (HS.out.1.non hg) (And.intro (blk_keep HS.out.2.1 hg (fun e => e)) (And.intro (HS.out.2.2.1.non hg) HS.out.2.2.2)))
    refine hK.out _ _ HS.out (fun _ => ?_)
    clear hK K hg
    try simp only [Act.put, sA, sB, sC]
    refine hp 4 34 (.agg R) rfl HS.out ?_ (he := (fun W e => by have h1 := HTs.out; go_simp; exact (HFo.out _).trans hR))
    refine h1o 5 rfl ?_
    intro K hK
    go_simp
    have HS0 := Lh HS.out
    have hga : Chg Non u (u.alloc (.cells recZ 46)) := (Chg.refl Non u).alloc _
    have HS := Lh (And.intro (HS.out.1.non hga) (And.intro (blk_keep HS.out.2.1 hga (fun e => e)) (And.intro (HS.out.2.2.1.non hga) HS.out.2.2.2)))
    refine hK.out _ _ HS.out (fun _ => ?_)
    clear hK K
    try simp only [Act.put, sA, sB, sC]
    have HSt := Lh (fun W h1 => HSk.out u W HS0.out h1)
    have HNB := Lh (blk_new u (.cells recZ 46))
    clear hga
    refine h_store 6 46 (.tmp 8) (.tmp 34) u.heap.size R (by kernel_rfl) rfl (by kernel_rfl) (by kernel_rfl) (by kernel_rfl) (by kernel_rfl) (by kernel_rfl) 46 ⟨_, HNB.out, by rw [HRs.out.1]; rfl⟩ (by rw [HRs.out.1]; exact info_rec) HRs.out.2 (fun W h1 h2 => HSt.out W h1) ?_
    intro v k1 k2
    have HS := Lh (HSt.out v k1)
    have HRB := Lh k2
    clear k1 k2
    refine hdn ?_ _
    have k0 := blk_cell HS.out.1.ptr 0 (v := .pointer (some ⟨pd, 0, none⟩)) rfl
    go_wp2_with fail
    refine (row_fail _ _ _ _ 61 _ (by omega) (blk_new v _) (HFm.out _ (HS.out.1.g.alloc _) A l.length c s t (by have := HLn.out; omega) (by have := HLn.out; omega) (blk_keep HS.out.1.ptr ((Chg.refl Non v).alloc _) (fun e => e)) (blk_keep HS.out.2.1 ((Chg.refl Non v).alloc _) (fun e => e)))).mono ?_
    rintro e v1 ⟨rfl, hg⟩
    have HF9 := Lh ((HS.out.1.non ((Chg.refl Non v).alloc _)).non hg)
    clear hg k0
    go_wp2_with (first
      | (refine sel (some 43) (.build 48 #[]) ?_
         refine wpList_pureW (some 43) (.agg choZ) rfl (by kernel_rfl) (by kernel_rfl) ?_)
      | (refine sel none (.store 48 (.tmp 4) (.tmp 43)) ?_
         refine wpList_store_rowA rfl 48 (.tmp 4) (.tmp 43) rfl (s + 2) choZ rfl rfl 48 _ HF9.out.res info_cho rfl choZ_one ?_
         intro v3 k1 k2
         have HA3 := Lh k2
         have HG4 := Lh (HF9.out.g.then_new k1 (fun x e => by have := HE.out; omega))
         clear k1 k2))
    refine bodyPost_ret (results_ct Tryz.results19 _ _ (s + 2) 48 choZ (0, 0) _ (.int .i64 61) (by kernel_rfl) (by kernel_rfl) HA3.out Tryz.underlying48 rfl info_cho) (by kernel_rfl) ⟨⟨61, .inl rfl, rfl⟩, HG4.out⟩
   ·intro K hK
    go_simp
    have HS0 := Lh HS.out
    have hga : Chg Non u0 (u0.alloc (.cells recZ 46)) := (Chg.refl Non u0).alloc _
    have HS := Lh (And.intro (HS.out.1.non hga) (And.intro (blk_keep HS.out.2.1 hga (fun e => e)) (And.intro (HS.out.2.2.1.non hga) HS.out.2.2.2)))
    refine hK.out _ _ HS.out (fun _ => ?_)
    clear hK K
    try simp only [Act.put, sA, sB, sC]
    have HNB := Lh (blk_new u0 (.cells recZ 46))
    refine h1o 3 rfl ?_
    intro K hK
    go_simp
    refine (HSm.out _ HS.out.2.2.1 HS.out.2.2.2.1 HS.out.2.2.2.2).mono ?_
    rintro e u ⟨rfl, hg⟩
    have HSt := Lh (fun W h1 => HSk2.out u0 u W HS0.out (hga.then_non hg) h1)
    have HNB := Lh (blk_keep HNB.out hg (fun e => e))
    have HS := Lh (And.intro (HS.out.1.non hg) (And.intro (blk_keep HS.out.2.1 hg (fun e => e)) (And.intro (HS.out.2.2.1.non hg) HS.out.2.2.2)))
    refine hK.out _ _ HS.out (fun _ => ?_)
    clear hK K hg hga
    try simp only [Act.put, sA, sB, sC]
    refine hp 4 34 (.agg R) rfl HS.out ?_ (he := (fun W e => by have h1 := HTs.out; go_simp; exact (HFo.out _).trans hR))
    refine h_store 6 46 (.tmp 8) (.tmp 34) u0.heap.size R (by kernel_rfl) rfl (by kernel_rfl) (by kernel_rfl) (by kernel_rfl) (by kernel_rfl) (by kernel_rfl) 46 ⟨_, HNB.out, by rw [HRs.out.1]; rfl⟩ (by rw [HRs.out.1]; exact info_rec) HRs.out.2 (fun W h1 h2 => HSt.out W h1) ?_
    intro v k1 k2
    have HS := Lh (HSt.out v k1)
    have HRB := Lh k2
    clear k1 k2
    refine hdn ?_ _
    have k0 := blk_cell HS.out.1.ptr 0 (v := .pointer (some ⟨pd, 0, none⟩)) rfl
    go_wp2_with fail
    refine (row_fail _ _ _ _ 61 _ (by omega) (blk_new v _) (HFm.out _ (HS.out.1.g.alloc _) A l.length c s t (by have := HLn.out; omega) (by have := HLn.out; omega) (blk_keep HS.out.1.ptr ((Chg.refl Non v).alloc _) (fun e => e)) (blk_keep HS.out.2.1 ((Chg.refl Non v).alloc _) (fun e => e)))).mono ?_
    rintro e v1 ⟨rfl, hg⟩
    have HF9 := Lh ((HS.out.1.non ((Chg.refl Non v).alloc _)).non hg)
    clear hg k0
    go_wp2_with (first
      | (refine sel (some 43) (.build 48 #[]) ?_
         refine wpList_pureW (some 43) (.agg choZ) rfl (by kernel_rfl) (by kernel_rfl) ?_)
      | (refine sel none (.store 48 (.tmp 4) (.tmp 43)) ?_
         refine wpList_store_rowA rfl 48 (.tmp 4) (.tmp 43) rfl (s + 2) choZ rfl rfl 48 _ HF9.out.res info_cho rfl choZ_one ?_
         intro v3 k1 k2
         have HA3 := Lh k2
         have HG4 := Lh (HF9.out.g.then_new k1 (fun x e => by have := HE.out; omega))
         clear k1 k2))
    refine bodyPost_ret (results_ct Tryz.results19 _ _ (s + 2) 48 choZ (0, 0) _ (.int .i64 61) (by kernel_rfl) (by kernel_rfl) HA3.out Tryz.underlying48 rfl info_cho) (by kernel_rfl) ⟨⟨61, .inl rfl, rfl⟩, HG4.out⟩
end
section
open Go.ChangeShapes Go.WideShapes Go.ChangeAt Go.RowKit
theorem post_below {H : Type} {enc : TypeId × Value → H} {P : Program} {f : Func} {s : ChangeSpec} {apart fresh handsOn again : Bool} {W W' : World} {args : Array Value} {v : Value} {ds gs : List (DataW H)} {before pa pv : List MemPlace}
  (hW : DataW.Whole enc P f.params.toList s.vars apart W args.toList ds gs before)
  (hres : ∀ (b : Nat) (sp : Nat → Bool) (hd : Bool), DataW.TrodAll enc P W' b sp hd f.resultTypes.toList (v.resultList f.resultTypes.size) (s.fn H (ds ++ gs)).results [])
  (hargs : ∀ sp : Nat → Bool, (∀ p ∈ before, sp p.block = true) → DataW.TrodAll enc P W' 0 sp true f.params.toList args.toList (s.fn H (ds ++ gs)).args pa)
  (hvars : ∀ sp : Nat → Bool, (∀ p ∈ before, sp p.block = true) → DataW.TrodVars enc P W' sp s.vars (s.fn H (ds ++ gs)).vars pv)
  (hps : before = pa ++ pv) (hb : Below W.heap.size W W')
  (hok : ∀ (j : Nat) (t : TypeId) (r : Value), f.resultTypes[j]? = some t → (v.resultList f.resultTypes.size)[j]? = some r → Value.okWide P W' .any 0 t r) :
  s.post enc P f apart fresh handsOn again W args v W' := by
 have hlt := hW.lt
 have hold : ∀ p ∈ before, (fun b => decide (b < W.heap.size)) p.block = true := fun p hp => by simpa using hlt p hp
 refine ⟨ds, gs, before, [], pa, pv, hW, hres _ _ _, hargs _ hold, hvars _ hold, World.keptBut_mono (fun p hp => ⟨hp, ?_⟩) (hb.frame (· ∈ before)), fun _ => ?_⟩
 ·rw [hps, List.mem_append] at hp
  exact Or.inr hp
 ·obtain ⟨_, _, _, _, _, hz, hn⟩ := hW
  refine ⟨hok, _, _, ([] ++ pa) ++ pv, ⟨[] ++ pa, pv, trodAll_append (hargs _ (fun _ _ => rfl)) (hres _ _ _), hvars _ (fun _ _ => rfl), rfl, ?_, ?_⟩, ?_⟩
  ·intro b off hp
   have hp' : MemPlace.cell b off ∈ before := by rw [hps]; simpa using hp
   rw [hb.frozen (show b < W.heap.size from hlt _ hp')]
   exact hz b off hp'
  ·intro ha
   have := hn ha
   rw [hps] at this
   simpa using this
  ·intro p hp _
   rw [hps]
   simpa using hp
end
section
open Go.ChangeShapes Go.WideShapes Go.ChangeAt Go.RowKit
section
variable {H : Type} {enc : TypeId × Value → H} {P : Program}
theorem sameAt_below {W W' : World} (hb : Below W.heap.size W W') {p : MemPlace} (hp : p.block < W.heap.size) : W.sameAt W' p := by
 cases p with
 | cell b off => exact hb.cell (p := ⟨b, off, none⟩) hp
 | map b => exact hb.block b hp
theorem trodAll_carry {W W' : World} {base : Nat} {sp : Nat → Bool} {hd : Bool} : ∀ {ts : List TypeId} {vs : List Value} {ds : List (DataW H)} {ps : List MemPlace},
  DataW.TrodAll enc P W base sp hd ts vs ds ps → (∀ p ∈ ps, W.sameAt W' p) → DataW.TrodAll enc P W' base sp hd ts vs ds ps
 | [], [], [], _, h, _ => h
 | _ :: _, _ :: _, _ :: _, _, ⟨p, q, ⟨n, h1⟩, h2, e⟩, hs =>
  ⟨p, q, ⟨n, DataW.trod_carry n _ _ _ h1 (fun x hx => hs x (by rw [e]; exact List.mem_append_left _ hx))⟩,
    trodAll_carry h2 (fun x hx => hs x (by rw [e]; exact List.mem_append_right _ hx)), e⟩
theorem post_law {f : Func} {s : ChangeSpec} {apart fresh handsOn again : Bool} {W W' : World} {args : Array Value} {tb : TypeId} {ds gs : List (DataW H)} {before : List MemPlace}
  (K : Kids P (· < P.types.size)) (hz : ∀ t e, t < P.types.size → P.underlying t = some (.slice e) → 0 < P.cellsOf e)
  (hT : ∀ t ∈ f.params.toList, t < P.types.size) (hr : f.resultTypes = #[tb]) (hub : P.underlying tb = some .bool)
  (hW : DataW.Whole enc P f.params.toList s.vars apart W args.toList ds gs before) (hv : s.vars = [])
  (hs : (s.fn H (ds ++ gs)).results = [.lit (.bool true)]) (ha : (s.fn H (ds ++ gs)).args = ds) (hv2 : (s.fn H (ds ++ gs)).vars = []) (hb : Below W.heap.size W W') :
  s.post enc P f apart fresh handsOn again W args (.bool true) W' := by
 have hW' := hW
 have hlt := hW.lt
 obtain ⟨p, q, hA, hV, rfl, hfz, hnd⟩ := hW
 rw [hv] at hV
 obtain ⟨rfl, rfl⟩ := trodVars_none hV
 rw [List.append_nil] at hlt
 refine post_below (pa := p) (pv := []) hW' ?_ ?_ ?_ rfl hb ?_
 ·intro b sp hd
  rw [hr, hs]
  exact trodAll_cons_mk (shut_bool hub _) trodAll_mk0
 ·intro sp hsp
  rw [ha]
  exact DataW.TrodAll.respare K hz hT (trodAll_carry hA (fun x hx => sameAt_below hb (hlt x hx))) (fun x hx => hsp x (by simpa using hx))
 ·intro sp _
  rw [hv, hv2]
  rfl
 ·exact ok_one hr rfl (okWide_bool_mk hub _)
end
end
section
open Go.ChangeShapes Go.WideShapes Go.ChangeAt Go.RowKit
section
variable {H : Type} {P : Program}
theorem wt_all {e : TypeId} {d : DataW H} {n : Nat} : ∀ {l : List (DataW H)}, d ∈ l → n ∈ d.weights P e → n ∈ DataW.weightsAll P e l
 | x :: r, h, hn => by
  simp only [DataW.weightsAll, List.mem_append]
  rcases List.mem_cons.1 h with rfl | h
  ·exact .inl hn
  ·exact .inr (wt_all h hn)
def SizedD (P : Program) (t : TypeId) (d : DataW H) : Prop := ∀ n ∈ d.weights P t, n ≤ reachBytes
theorem SizedD.elem {t e : TypeId} {a b : List (DataW H)} (h : SizedD P t (.slice a b)) (hu : P.underlying t = some (.slice e)) {d : DataW H} (hd : d ∈ a) : SizedD P e d := fun n hn => by
 refine h n ?_
 simp only [DataW.weights, hu, List.mem_cons, List.mem_append]
 exact .inr (.inl (wt_all hd hn))
theorem SizedD.len {t e : TypeId} {a b : List (DataW H)} (h : SizedD P t (.slice a b)) (hu : P.underlying t = some (.slice e)) : (a.length + b.length) * P.bytesOf e ≤ reachBytes := by
 refine h _ ?_
 simp only [DataW.weights, hu, List.mem_cons, true_or]
theorem SizedD.field {t : TypeId} {fs : Array Field} {parts : List (DataW H)} (h : SizedD P t (.agg parts)) (hu : P.underlying t = some (.struct fs)) {i : Nat} {f : Field} {d : DataW H} (hi : fs[i]? = some f) (hd : parts[i]? = some d) : SizedD P f.type d := fun n hn => by
 refine h n ?_
 simp only [DataW.weights, hu]
 refine DataW.weights_mem_each (j := i) (t := f.type) ?_ hd n hn
 rw [List.getElem?_map, Array.getElem?_toList, hi]
 rfl
theorem SizedD.arg {ts : List TypeId} {ds : List (DataW H)} (h : (DataW.weightsEach P ts ds).all (· ≤ reachBytes) = true) {j : Nat} {t : TypeId} {d : DataW H} (ht : ts[j]? = some t) (hd : ds[j]? = some d) : SizedD P t d := fun n hn => by
 have := List.all_eq_true.1 h _ (DataW.weights_mem_each ht hd n hn)
 simpa using this
end
section
variable {H : Type} {enc : TypeId × Value → H} {W : World}
theorem bytes_is {P : Program} {t e : TypeId} {fuel : Nat} {cs : List Value} {x : DataW H × List MemPlace} (ht : P.underlying t = some (.slice e)) (he : P.underlying e = some (.int .u8)) (hc : P.cellsOf e = 1)
  (hf : DataW.trod enc P W 0 (fun _ => true) true fuel t cs = some x) : ∃ (B : Option Addr) (l : List UInt8) (c : Nat), cs = [.slice B l.length c] ∧ Rd W B l ∧ l.length ≤ c ∧ c ≤ maxLen ∧ (P.bytesOf e = 1 → SizedD P t x.1 → c ≤ 140737488351232) := by
 rcases open_ints ht he hc hf with ⟨h0, _⟩ | ⟨a', len', cap', zs, h0, _, hl, hm, hzl, hx, hcell, hwf⟩
 ·exact ⟨none, [], 0, h0, Rd.nil _ _, Nat.le_refl _, by simp, fun _ _ => by omega⟩
 ·simp only [if_true] at hzl
  have hnum : ∀ n ∈ zs, ((UInt8.ofNat n.toNat).toNat : Int) = n := by
   intro n hn
   obtain ⟨h1, h2⟩ := bounds_u8 (hwf n hn)
   simp only [UInt8.toNat_ofNat']
   omega
  refine ⟨some a', (zs.take len').map (fun n => UInt8.ofNat n.toNat), cap', by rw [h0]; simp [hzl, Nat.min_eq_left hl], ?_, by simp [hzl, hl, Nat.min_eq_left hl], hm, ?_⟩
  ·intro i x hx
   rw [List.getElem?_map] at hx
   obtain ⟨n, hn, rfl⟩ := Option.map_eq_some_iff.1 hx
   have hi : i < (zs.take len').length := (List.getElem?_eq_some_iff.1 hn).1
   rw [List.length_take] at hi
   have hn' : zs[i]? = some n := by rw [← hn, List.getElem?_take_of_lt (by omega)]
   obtain ⟨b, off, rfl, hc2⟩ := ints_at hcell (by omega)
   refine ⟨b, off, rfl, ?_⟩
   rw [hc2 i (by omega), List.getD, hn', Option.getD_some, hnum n (List.mem_of_getElem? hn')]
  ·intro hb hs
   rw [hx] at hs
   have := hs.len ht
   rw [hb] at this
   simp only [lits, List.length_map, List.length_take, List.length_drop, Nat.mul_one, reachBytes] at this
   omega
end
end
section
open Go.ChangeShapes Go.WideShapes Go.ChangeAt Go.RowKit
theorem one_of_take {cs : List Value} {k : Nat} {v : Value} (h : (cs.drop k).take 1 = [v]) : cs[k]? = some v := by
 have h1 : ((cs.drop k).take 1)[0]? = some v := by rw [h]; rfl
 rw [List.getElem?_take_of_lt (by omega), List.getElem?_drop, Nat.add_zero] at h1
 exact h1
section
variable {H : Type} {enc : TypeId × Value → H} {W : World} {base : Nat} {sp : Nat → Bool} {hd : Bool}
theorem open_u8s {P : Program} {t e : TypeId} {n fuel : Nat} {cs : List Value} {x : DataW H × List MemPlace} (ht : P.underlying t = some (.array n e)) (he : P.underlying e = some (.int .u8)) (hc : P.cellsOf e = 1) (hn : P.cellsOf t = n)
  (h : DataW.trod enc P W base sp hd fuel t cs = some x) : ∃ l : List UInt8, cs = l.map bv ∧ l.length = n := by
 obtain ⟨xs, m, _, _, hl, hxl, hx⟩ := DataW.trod_array ht h
 rw [hn] at hl
 have each : ∀ i, i < n → ∃ b : UInt8, cs[i]? = some (bv b) := by
  intro i hi
  have hq := hx i hi
  rw [hc, Nat.mul_one, List.getElem?_eq_getElem (by omega)] at hq
  obtain ⟨k, hk, _, hw⟩ := DataW.trod_int he hq
  obtain ⟨h1, h2⟩ := bounds_u8 hw
  refine ⟨UInt8.ofNat k.toNat, ?_⟩
  rw [one_of_take hk]
  simp only [bv, UInt8.toNat_ofNat']
  congr 2
  omega
 refine ⟨(List.range n).map (fun i => match (cs[i]? : Option Value) with | some (Value.int _ k) => UInt8.ofNat k.toNat | _ => 0), ?_, by simp⟩
 apply List.ext_getElem?
 intro i
 by_cases hi : i < n
 ·obtain ⟨b, hb⟩ := each i hi
  rw [hb]
  simp only [List.getElem?_map, List.getElem?_range hi, Option.map_some, hb]
  simp [bv]
 ·rw [List.getElem?_eq_none (by omega), List.getElem?_eq_none (by simp; omega)]
end
end
end Go.Proofs.YtajkajgifigmbaaGreat
