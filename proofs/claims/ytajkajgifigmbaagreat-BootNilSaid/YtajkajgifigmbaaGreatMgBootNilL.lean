/- BootNil, part 12 of 14: contracts of the functions that it reaches, and the laws that they need, merged and shortened (from my texts XShE, XShF). -/
import Derived.Test.YtajkajgifigmbaaGreatMgBootNilB
import Derived.Test.YtajkajgifigmbaaGreatMgBootNilF
import Derived.Test.YtajkajgifigmbaaGreatMgBootNilK
namespace Go.Proofs.YtajkajgifigmbaaGreat
set_option linter.unusedVariables false
set_option linter.unusedSimpArgs false
set_option maxHeartbeats 8000000
set_option maxRecDepth 100000
section
open Go.RowKit
theorem wp_copy_row {P : Program} {w : World} {o : Oper} {a : Act} {K : Act → World → Prop} {Q : Exit → Act → World → Prop} (d s : Operand) (dT sT elem : TypeId) (ho : o.op = .call { callee := .builtin .copy, args := #[d, s], argTypes := #[dT, sT] })
  (hu : P.underlying dT = some (.slice elem)) (hs : (P.info? elem).map (·.size) = some 1) (g off dLen dCap : Nat) (ad : Addr) (sLen sCap : Nat) (cur : Array Value) (t : TypeId) (cs : List Value)
  (hd : a.eval d = .slice (some ⟨g, off, none⟩) dLen dCap) (hx : a.eval s = .slice (some ad) sLen sCap) (hg : w.heap[g]? = some (.cells cur t (0, 0))) (hn : cs.length = Nat.min sLen dLen)
  (hsrc : ∀ j v, cs[j]? = some v → w.cell? (ad.add j) = some v) (hfit : off + cs.length ≤ cur.size) (h1 : ∀ v ∈ cs, v.oneCell' = true)
  (h : ∀ W, Chg (fun k => k = g) w W → W.heap[g]? = some (.cells (cur.toList.take off ++ cs ++ cur.toList.drop (off + cs.length)).toArray t (0, 0)) → K (a.put o.dst (goInt cs.length)) W) : o.wp P a w K Q := by
 have hr := run_copy_row (P := P) w dT sT o.type elem g off dLen dCap ad sLen sCap cur t cs hu hs hg hn hsrc hfit h1
 unfold Oper.wp execOp
 simp only [ho, resolve, invoke, builtin, Sem.run_bind, Sem.run_pure, Result.andThen_ok, List.map_toArray, List.map_cons, List.map_nil, hd, hx, hr]
 exact h _ ((Chg.refl (fun k => k = g) w).setRow (.inl rfl) _) (setRow_heap _ _ _ _ _ _ hg)
theorem hThree {P : Program} {md : Region.Mode} {ops : Array Oper} {Q : Exit → Act → World → Prop} {S : World → Prop} {fuel : Nat} {listed : Array Bool} {a : Act} {w : World} (i j k : Nat) {oi oj ok : Oper} (hr : Region.ready md ops listed = [i, j, k]) (hi : ops[i]? = some oi) (hj : ops[j]? = some oj) (hk : ops[k]? = some ok)
  (hwi : Region.wanted oi (yielded ops a.tmps) = true) (hwj : Region.wanted oj (yielded ops a.tmps) = true) (hwk : Region.wanted ok (yielded ops a.tmps) = true)
  (h1 : ∀ K : Act → World → Prop, Shut (∀ a w, S w → (S w → wpAnyH P md ops Q S fuel (listed.setIfInBounds i true) a w) → K a w) → Oper.wp P oi a w K Q)
  (h2 : ∀ K : Act → World → Prop, Shut (∀ a w, S w → (S w → wpAnyH P md ops Q S fuel (listed.setIfInBounds j true) a w) → K a w) → Oper.wp P oj a w K Q)
  (h3 : ∀ K : Act → World → Prop, Shut (∀ a w, S w → (S w → wpAnyH P md ops Q S fuel (listed.setIfInBounds k true) a w) → K a w) → Oper.wp P ok a w K Q) : wpAnyH P md ops Q S (fuel + 1) listed a w :=
 wpAnyH_ready hr (by simp) (AllReadyH.cons hi (fun K hK => by rw [if_pos hwi]; exact h1 K hK) (AllReadyH.cons hj (fun K hK => by rw [if_pos hwj]; exact h2 K hK) (AllReadyH.cons hk (fun K hK => by rw [if_pos hwk]; exact h3 K hK) AllReadyH.nil)))
def St.l (s : St) : List Nat := [s.a, s.b, s.c, s.d, s.e, s.f, s.g, s.h]
theorem zero8 : arr (fst hL 0) = #[.int .u32 0, .int .u32 0, .int .u32 0, .int .u32 0, .int .u32 0, .int .u32 0, .int .u32 0, .int .u32 0] := First_ok_zero
theorem zero64 : arr (fst shaK 0) = #[.int .u32 0, .int .u32 0, .int .u32 0, .int .u32 0, .int .u32 0, .int .u32 0, .int .u32 0, .int .u32 0, .int .u32 0, .int .u32 0, .int .u32 0, .int .u32 0, .int .u32 0, .int .u32 0, .int .u32 0, .int .u32 0, .int .u32 0, .int .u32 0, .int .u32 0, .int .u32 0, .int .u32 0, .int .u32 0, .int .u32 0, .int .u32 0, .int .u32 0, .int .u32 0, .int .u32 0, .int .u32 0, .int .u32 0, .int .u32 0, .int .u32 0, .int .u32 0, .int .u32 0, .int .u32 0, .int .u32 0, .int .u32 0, .int .u32 0, .int .u32 0, .int .u32 0, .int .u32 0, .int .u32 0, .int .u32 0, .int .u32 0, .int .u32 0, .int .u32 0, .int .u32 0, .int .u32 0, .int .u32 0, .int .u32 0, .int .u32 0, .int .u32 0, .int .u32 0, .int .u32 0, .int .u32 0, .int .u32 0, .int .u32 0, .int .u32 0, .int .u32 0, .int .u32 0, .int .u32 0, .int .u32 0, .int .u32 0, .int .u32 0, .int .u32 0] := Consts_ok_zero
def mix (A X : List Nat) (k : Nat) : List Nat := A.take k ++ X.drop k
theorem mix_set {A X : List Nat} {k y : Nat} (hl : A.length = X.length) (h : A[k]? = some y) : (mix A X k).set k y = mix A X (k + 1) := by
 obtain ⟨hk, rfl⟩ := List.getElem?_eq_some_iff.1 h
 unfold mix
 rw [List.set_append_right _ _ (by rw [List.length_take]; omega), List.length_take, Nat.min_eq_left (by omega), Nat.sub_self, List.take_succ_eq_append_getElem hk, List.append_assoc]
 congr 1
 rw [List.drop_eq_getElem_cons (show k < X.length by omega)]
 rfl
theorem mix_at {A X : List Nat} {k y : Nat} (hl : A.length = X.length) (h : X[k]? = some y) : (mix A X k)[k]? = some y := by
 have hk := (List.getElem?_eq_some_iff.1 h).1
 unfold mix
 rw [List.getElem?_append_right (by rw [List.length_take]; omega), List.length_take, Nat.min_eq_left (by omega), Nat.sub_self, List.getElem?_drop, Nat.add_zero]
 exact h
theorem St.add_at {x s : St} {j p q : Nat} (hp : x.l[j]? = some p) (hq : s.l[j]? = some q) : (x.add s).l[j]? = some ((p + q) % W32) := by
 have hj : j < 8 := (List.getElem?_eq_some_iff.1 hp).1
 have hc : j = 0 ∨ j = 1 ∨ j = 2 ∨ j = 3 ∨ j = 4 ∨ j = 5 ∨ j = 6 ∨ j = 7 := by omega
 rcases hc with rfl | rfl | rfl | rfl | rfl | rfl | rfl | rfl <;> (injection hp with hp; injection hq with hq; subst hp hq; rfl)
theorem St.l_lt {x : St} (h : x.Ok) {j p : Nat} (hp : x.l[j]? = some p) : p < 4294967296 := by
 obtain ⟨h0, h1, h2, h3, h4, h5, h6, h7⟩ := h
 have hj : j < 8 := (List.getElem?_eq_some_iff.1 hp).1
 have hc : j = 0 ∨ j = 1 ∨ j = 2 ∨ j = 3 ∨ j = 4 ∨ j = 5 ∨ j = 6 ∨ j = 7 := by omega
 rcases hc with rfl | rfl | rfl | rfl | rfl | rfl | rfl | rfl <;> (injection hp with hp; subst hp; assumption)
def z64 : Array Value := arr (fst shaK 0)
def z8 : Array Value := arr (fst hL 0)
theorem z64_size : z64.size = 64 := by unfold z64; rw [arr_size, fst_len (Nat.zero_le _)]; rfl
theorem z8_size : z8.size = 8 := by unfold z8; rw [arr_size, fst_len (Nat.zero_le _)]; rfl
theorem Eat_ok (s : St) (hs : s.Ok) (A : Option Addr) (b : List UInt8) (c : Nat) (w : World) (hr : Rd w A b) (hl : b.length = 64) (hc : 64 ≤ c) (hcm : c ≤ maxLen) :
  Calls Tryz.prog 106 #[.agg (arr s.l), .slice A 64 c, .agg (arr shaK)] w fun e w' => e = .returned (.agg (arr (eatL s b).l)) ∧ Chg Non w w' := by
 have HSc := Lh (fun W (hW : Chg Non w W) => Sched_ok A b c W (hr.non hW) hl hc hcm)
 have HFL := Lh (sched_length b)
 have HLt := Lh (sched_lt b)
 obtain ⟨F, hF⟩ : ∃ F, sched b = F := ⟨_, rfl⟩
 rw [hF] at HSc HFL HLt
 have HFe := Lh hF
 have HOk := Lh hs
 obtain ⟨S0, hS0⟩ : ∃ S0, arr s.l = S0 := ⟨_, rfl⟩
 have HS0 := Lh hS0
 have HS0s : Hid (S0.size = 8) := Lh (by rw [← hS0, arr_size]; rfl)
 obtain ⟨Kc, hKc⟩ : ∃ Kc, arr shaK = Kc := ⟨_, rfl⟩
 have HKc := Lh hKc
 have HKs : Hid (Kc.size = 64) := Lh (by rw [← hKc, arr_size]; rfl)
 rw [hS0, hKc]
 have hz8 := zero8
 have hz64 := zero64
 obtain ⟨Z8, hZ8⟩ : ∃ Z, arr (fst hL 0) = Z := ⟨_, rfl⟩
 obtain ⟨Z64, hZ64⟩ : ∃ Z, arr (fst shaK 0) = Z := ⟨_, rfl⟩
 rw [hZ8] at hz8
 rw [hZ64] at hz64
 have HZ8 : Hid (Z8.size = 8) := Lh (by rw [← hZ8]; exact z8_size)
 have HZ64 : Hid (Z64.size = 64) := Lh (by rw [← hZ64]; exact z64_size)
 clear hF hS0 hKc hZ8 hZ64 hr
 go_enter Tryz.func106, Tryz.ntmps106
 go_wp2_with (first | rw [← hz8] | fail)
 obtain ⟨b3, hb3⟩ : ∃ x, w.heap.size = x := ⟨_, rfl⟩
 have q0 := al_3_0 w (.cells S0 162) (.cells Kc 164) (.cells Z8 162)
 have q1 := al_3_1 w (.cells S0 162) (.cells Kc 164) (.cells Z8 162)
 have q2 := al_3_2 w (.cells S0 162) (.cells Kc 164) (.cells Z8 162)
 have hgW : Chg Non w (((w.alloc (.cells S0 162)).alloc (.cells Kc 164)).alloc (.cells Z8 162)) := (((Chg.refl Non w).alloc _).alloc _).alloc _
 have hsz : (((w.alloc (.cells S0 162)).alloc (.cells Kc 164)).alloc (.cells Z8 162)).heap.size = b3 + 3 := by rw [← hb3]; simp
 obtain ⟨W0, hW0⟩ : ∃ V, ((w.alloc (.cells S0 162)).alloc (.cells Kc 164)).alloc (.cells Z8 162) = V := ⟨_, rfl⟩
 rw [hb3] at q0 q1 q2
 rw [hW0] at q0 q1 q2 hgW hsz ⊢
 rw [hb3]
 clear hW0
 obtain ⟨V, hV⟩ : ∃ V, V = W0.drew := ⟨_, rfl⟩
 have hgV : Chg Non W0 V := by rw [hV]; exact (Chg.refl Non W0).drew
 have HQ3 := Lh (blk_keep q0 hgV (fun e => e))
 have HQ5 := Lh (blk_keep q1 hgV (fun e => e))
 have HQ6 := Lh (blk_keep q2 hgV (fun e => e))
 have HGV := Lh (hgW.then_non hgV)
 have HVs : Hid (V.heap.size = b3 + 3) := Lh (by rw [hV]; exact hsz)
 have HB3 := Lh hb3
 clear q0 q1 q2 hgW hgV hsz hb3
 apply wp_cutB (α := Nat × Nat) (f := fun y x => (((((x.put (some 7) (.pointer (some ⟨y.1, 0, none⟩))).put (some 8) (.pointer (some ⟨y.2, 0, none⟩))).put (some 15) (.slice A 64 c)).put (some 16) (.agg (arr F))).put (some 17) (.agg S0)))
  (R := fun y v => v.heap[y.1]? = some (.cells (arr F) 164 (0, 0)) ∧ v.heap[y.2]? = some (.cells S0 162 (0, 0)) ∧ Chg Non V v ∧ b3 + 3 ≤ y.1 ∧ b3 + 3 ≤ y.2 ∧ y.1 ≠ y.2)
 ·refine wp_region_held_drew (S := Chg Non V) (by kernel_rfl) (by rw [hV]; exact Chg.refl _ _) (fun hHeld => ?_)
  clear hHeld
  rw [← hV]
  clear hV
  have HV : Hid (Chg Non V V) := Lh (Chg.refl _ _)
  refine hp 0 15 (.slice A 64 c) rfl HV.out ?_ (hQ := fun _ _ _ h => absurd h.1 (by simp))
  refine h_load 2 (some 17) 162 (.tmp 3) b3 0 S0 _ rfl (by kernel_rfl) (by kernel_rfl) (by kernel_rfl) rfl rfl (fun _ _ _ h => absurd h.1 (by simp)) (by kernel_rfl) rfl (fun W hW => blk_range (blk_keep HQ3.out hW (fun e => e))) Tryz.underlying162 rfl (by rw [HS0s.out]; kernel_rfl) HV.out ?_
  try simp only [Act.put, sA, sB, sC]
  refine hThree 1 3 4 (by kernel_rfl) rfl rfl rfl (by kernel_rfl) (by kernel_rfl) (by kernel_rfl) ?_ ?_ ?_
  ·intro K hK
   go_simp
   refine (HSc.out _ (HGV.out.then_non HV.out)).mono ?_
   rintro e u1 ⟨rfl, hgX⟩
   refine hK.out _ _ (HV.out.then_non hgX) (fun _ => ?_)
   clear hK K
   try simp only [Act.put, sA, sB, sC]
   have HV := Lh (HV.out.then_non hgX)
   clear hgX
   refine hTwo 3 4 (by kernel_rfl) rfl rfl (by kernel_rfl) (by kernel_rfl) ?_ ?_
   ·intro K hK
    go_simp
    try rw [← hz64]
    refine hK.out _ _ (HV.out.alloc _) (fun _ => ?_)
    clear hK K
    try simp only [Act.put, sA, sB, sC]
    have hnew := blk_new u1 (.cells Z64 164)
    have hgX : Chg Non u1 (u1.alloc (.cells Z64 164)) := (Chg.refl Non u1).alloc _
    have hge7 : b3 + 3 ≤ u1.heap.size := by have h1 := HV.out.size; have h2 := HVs.out; omega
    have HV := Lh (HV.out.then_non hgX)
    obtain ⟨u2, hU⟩ : ∃ X, u1.alloc (.cells Z64 164) = X := ⟨_, rfl⟩
    rw [hU] at hnew HV ⊢
    clear hgX hU
    obtain ⟨g7, hg7⟩ : ∃ k, u1.heap.size = k := ⟨_, rfl⟩
    rw [hg7] at hnew hge7 ⊢
    have H7 := Lh hnew
    clear hnew
    clear hg7
    refine h1o 4 rfl ?_
    intro K hK
    go_simp
    try rw [← hz8]
    refine hK.out _ _ (HV.out.alloc _) (fun _ => ?_)
    clear hK K
    try simp only [Act.put, sA, sB, sC]
    have hlo := blk_lt H7.out
    have hnew := blk_new u2 (.cells Z8 162)
    have hgX : Chg Non u2 (u2.alloc (.cells Z8 162)) := (Chg.refl Non u2).alloc _
    have H7 := Lh (blk_keep H7.out hgX (fun e => e))
    have hge8 : b3 + 3 ≤ u2.heap.size := by have h1 := HV.out.size; have h2 := HVs.out; omega
    have HV := Lh (HV.out.then_non hgX)
    obtain ⟨u3, hU⟩ : ∃ X, u2.alloc (.cells Z8 162) = X := ⟨_, rfl⟩
    rw [hU] at hnew HV ⊢
    rw [hU] at H7
    clear hgX hU
    obtain ⟨g8, hg8⟩ : ∃ k, u2.heap.size = k := ⟨_, rfl⟩
    rw [hg8] at hnew hge8 ⊢
    have H8 := Lh hnew
    clear hnew
    rw [hg8] at hlo
    have hne : g7 ≠ g8 := by omega
    clear hg8
    refine h_store 5 164 (.tmp 7) (.tmp 16) g7 (arr F) (by kernel_rfl) rfl (by kernel_rfl) rfl rfl rfl rfl 164 ⟨_, H7.out, by rw [HZ64.out, arr_size, HFL.out]⟩ (by rw [arr_size, HFL.out]; kernel_rfl) (arr_one F) (fun W hg hb => HV.out.then_new hg (fun x e => by have e : x = g7 := e; have := HVs.out; omega)) ?_
    intro X1 hg1 h71
    try simp only [Act.put, sA, sB, sC]
    have HV1 := Lh (HV.out.then_new hg1 (fun x e => by have e : x = g7 := e; have := HVs.out; omega))
    have H81 := Lh (blk_keep H8.out hg1 (fun e => hne e.symm))
    refine h_store 6 162 (.tmp 8) (.tmp 17) g8 S0 (by kernel_rfl) rfl (by kernel_rfl) rfl rfl rfl rfl 162 ⟨_, H81.out, by rw [HZ8.out, HS0s.out]⟩ (by rw [HS0s.out]; kernel_rfl) (by rw [← HS0.out]; exact arr_one _) (fun W hg hb => HV1.out.then_new hg (fun x e => by have e : x = g8 := e; have := HVs.out; omega)) ?_
    intro X2 hg2 h82
    try simp only [Act.put, sA, sB, sC]
    refine hdn ?_ _
    exact ⟨rfl, (g7, g8), by kernel_rfl, blk_keep h71 hg2 (fun e => hne e), h82, HV1.out.then_new hg2 (fun x e => by have e : x = g8 := e; have := HVs.out; omega), hge7, hge8, hne⟩
   ·intro K hK
    go_simp
    try rw [← hz8]
    refine hK.out _ _ (HV.out.alloc _) (fun _ => ?_)
    clear hK K
    try simp only [Act.put, sA, sB, sC]
    have hnew := blk_new u1 (.cells Z8 162)
    have hgX : Chg Non u1 (u1.alloc (.cells Z8 162)) := (Chg.refl Non u1).alloc _
    have hge8 : b3 + 3 ≤ u1.heap.size := by have h1 := HV.out.size; have h2 := HVs.out; omega
    have HV := Lh (HV.out.then_non hgX)
    obtain ⟨u2, hU⟩ : ∃ X, u1.alloc (.cells Z8 162) = X := ⟨_, rfl⟩
    rw [hU] at hnew HV ⊢
    clear hgX hU
    obtain ⟨g8, hg8⟩ : ∃ k, u1.heap.size = k := ⟨_, rfl⟩
    rw [hg8] at hnew hge8 ⊢
    have H8 := Lh hnew
    clear hnew
    clear hg8
    refine h1o 3 rfl ?_
    intro K hK
    go_simp
    try rw [← hz64]
    refine hK.out _ _ (HV.out.alloc _) (fun _ => ?_)
    clear hK K
    try simp only [Act.put, sA, sB, sC]
    have hlo := blk_lt H8.out
    have hnew := blk_new u2 (.cells Z64 164)
    have hgX : Chg Non u2 (u2.alloc (.cells Z64 164)) := (Chg.refl Non u2).alloc _
    have H8 := Lh (blk_keep H8.out hgX (fun e => e))
    have hge7 : b3 + 3 ≤ u2.heap.size := by have h1 := HV.out.size; have h2 := HVs.out; omega
    have HV := Lh (HV.out.then_non hgX)
    obtain ⟨u3, hU⟩ : ∃ X, u2.alloc (.cells Z64 164) = X := ⟨_, rfl⟩
    rw [hU] at hnew HV ⊢
    rw [hU] at H8
    clear hgX hU
    obtain ⟨g7, hg7⟩ : ∃ k, u2.heap.size = k := ⟨_, rfl⟩
    rw [hg7] at hnew hge7 ⊢
    have H7 := Lh hnew
    clear hnew
    rw [hg7] at hlo
    have hne : g7 ≠ g8 := by omega
    clear hg7
    refine h_store 5 164 (.tmp 7) (.tmp 16) g7 (arr F) (by kernel_rfl) rfl (by kernel_rfl) rfl rfl rfl rfl 164 ⟨_, H7.out, by rw [HZ64.out, arr_size, HFL.out]⟩ (by rw [arr_size, HFL.out]; kernel_rfl) (arr_one F) (fun W hg hb => HV.out.then_new hg (fun x e => by have e : x = g7 := e; have := HVs.out; omega)) ?_
    intro X1 hg1 h71
    try simp only [Act.put, sA, sB, sC]
    have HV1 := Lh (HV.out.then_new hg1 (fun x e => by have e : x = g7 := e; have := HVs.out; omega))
    have H81 := Lh (blk_keep H8.out hg1 (fun e => hne e.symm))
    refine h_store 6 162 (.tmp 8) (.tmp 17) g8 S0 (by kernel_rfl) rfl (by kernel_rfl) rfl rfl rfl rfl 162 ⟨_, H81.out, by rw [HZ8.out, HS0s.out]⟩ (by rw [HS0s.out]; kernel_rfl) (by rw [← HS0.out]; exact arr_one _) (fun W hg hb => HV1.out.then_new hg (fun x e => by have e : x = g8 := e; have := HVs.out; omega)) ?_
    intro X2 hg2 h82
    try simp only [Act.put, sA, sB, sC]
    refine hdn ?_ _
    exact ⟨rfl, (g7, g8), by kernel_rfl, blk_keep h71 hg2 (fun e => hne e), h82, HV1.out.then_new hg2 (fun x e => by have e : x = g8 := e; have := HVs.out; omega), hge7, hge8, hne⟩
  ·intro K hK
   go_simp
   try rw [← hz64]
   refine hK.out _ _ (HV.out.alloc _) (fun _ => ?_)
   clear hK K
   try simp only [Act.put, sA, sB, sC]
   have hnew := blk_new V (.cells Z64 164)
   have hgX : Chg Non V (V.alloc (.cells Z64 164)) := (Chg.refl Non V).alloc _
   have hge7 : b3 + 3 ≤ V.heap.size := by have h1 := HV.out.size; have h2 := HVs.out; omega
   have HV := Lh (HV.out.then_non hgX)
   obtain ⟨u1, hU⟩ : ∃ X, V.alloc (.cells Z64 164) = X := ⟨_, rfl⟩
   rw [hU] at hnew HV ⊢
   clear hgX hU
   obtain ⟨g7, hg7⟩ : ∃ k, V.heap.size = k := ⟨_, rfl⟩
   rw [hg7] at hnew hge7 ⊢
   have H7 := Lh hnew
   clear hnew
   clear hg7
   refine hTwo 1 4 (by kernel_rfl) rfl rfl (by kernel_rfl) (by kernel_rfl) ?_ ?_
   ·intro K hK
    go_simp
    refine (HSc.out _ (HGV.out.then_non HV.out)).mono ?_
    rintro e u2 ⟨rfl, hgX⟩
    refine hK.out _ _ (HV.out.then_non hgX) (fun _ => ?_)
    clear hK K
    try simp only [Act.put, sA, sB, sC]
    have H7 := Lh (blk_keep H7.out hgX (fun e => e))
    have HV := Lh (HV.out.then_non hgX)
    clear hgX
    refine h1o 4 rfl ?_
    intro K hK
    go_simp
    try rw [← hz8]
    refine hK.out _ _ (HV.out.alloc _) (fun _ => ?_)
    clear hK K
    try simp only [Act.put, sA, sB, sC]
    have hlo := blk_lt H7.out
    have hnew := blk_new u2 (.cells Z8 162)
    have hgX : Chg Non u2 (u2.alloc (.cells Z8 162)) := (Chg.refl Non u2).alloc _
    have H7 := Lh (blk_keep H7.out hgX (fun e => e))
    have hge8 : b3 + 3 ≤ u2.heap.size := by have h1 := HV.out.size; have h2 := HVs.out; omega
    have HV := Lh (HV.out.then_non hgX)
    obtain ⟨u3, hU⟩ : ∃ X, u2.alloc (.cells Z8 162) = X := ⟨_, rfl⟩
    rw [hU] at hnew HV ⊢
    rw [hU] at H7
    clear hgX hU
    obtain ⟨g8, hg8⟩ : ∃ k, u2.heap.size = k := ⟨_, rfl⟩
    rw [hg8] at hnew hge8 ⊢
    have H8 := Lh hnew
    clear hnew
    rw [hg8] at hlo
    have hne : g7 ≠ g8 := by omega
    clear hg8
    refine h_store 5 164 (.tmp 7) (.tmp 16) g7 (arr F) (by kernel_rfl) rfl (by kernel_rfl) rfl rfl rfl rfl 164 ⟨_, H7.out, by rw [HZ64.out, arr_size, HFL.out]⟩ (by rw [arr_size, HFL.out]; kernel_rfl) (arr_one F) (fun W hg hb => HV.out.then_new hg (fun x e => by have e : x = g7 := e; have := HVs.out; omega)) ?_
    intro X1 hg1 h71
    try simp only [Act.put, sA, sB, sC]
    have HV1 := Lh (HV.out.then_new hg1 (fun x e => by have e : x = g7 := e; have := HVs.out; omega))
    have H81 := Lh (blk_keep H8.out hg1 (fun e => hne e.symm))
    refine h_store 6 162 (.tmp 8) (.tmp 17) g8 S0 (by kernel_rfl) rfl (by kernel_rfl) rfl rfl rfl rfl 162 ⟨_, H81.out, by rw [HZ8.out, HS0s.out]⟩ (by rw [HS0s.out]; kernel_rfl) (by rw [← HS0.out]; exact arr_one _) (fun W hg hb => HV1.out.then_new hg (fun x e => by have e : x = g8 := e; have := HVs.out; omega)) ?_
    intro X2 hg2 h82
    try simp only [Act.put, sA, sB, sC]
    refine hdn ?_ _
    exact ⟨rfl, (g7, g8), by kernel_rfl, blk_keep h71 hg2 (fun e => hne e), h82, HV1.out.then_new hg2 (fun x e => by have e : x = g8 := e; have := HVs.out; omega), hge7, hge8, hne⟩
   ·intro K hK
    go_simp
    try rw [← hz8]
    refine hK.out _ _ (HV.out.alloc _) (fun _ => ?_)
    clear hK K
    try simp only [Act.put, sA, sB, sC]
    have hlo := blk_lt H7.out
    have hnew := blk_new u1 (.cells Z8 162)
    have hgX : Chg Non u1 (u1.alloc (.cells Z8 162)) := (Chg.refl Non u1).alloc _
    have H7 := Lh (blk_keep H7.out hgX (fun e => e))
    have hge8 : b3 + 3 ≤ u1.heap.size := by have h1 := HV.out.size; have h2 := HVs.out; omega
    have HV := Lh (HV.out.then_non hgX)
    obtain ⟨u2, hU⟩ : ∃ X, u1.alloc (.cells Z8 162) = X := ⟨_, rfl⟩
    rw [hU] at hnew HV ⊢
    rw [hU] at H7
    clear hgX hU
    obtain ⟨g8, hg8⟩ : ∃ k, u1.heap.size = k := ⟨_, rfl⟩
    rw [hg8] at hnew hge8 ⊢
    have H8 := Lh hnew
    clear hnew
    rw [hg8] at hlo
    have hne : g7 ≠ g8 := by omega
    clear hg8
    refine h1o 1 rfl ?_
    intro K hK
    go_simp
    refine (HSc.out _ (HGV.out.then_non HV.out)).mono ?_
    rintro e u3 ⟨rfl, hgX⟩
    refine hK.out _ _ (HV.out.then_non hgX) (fun _ => ?_)
    clear hK K
    try simp only [Act.put, sA, sB, sC]
    have H7 := Lh (blk_keep H7.out hgX (fun e => e))
    have H8 := Lh (blk_keep H8.out hgX (fun e => e))
    have HV := Lh (HV.out.then_non hgX)
    clear hgX
    refine h_store 5 164 (.tmp 7) (.tmp 16) g7 (arr F) (by kernel_rfl) rfl (by kernel_rfl) rfl rfl rfl rfl 164 ⟨_, H7.out, by rw [HZ64.out, arr_size, HFL.out]⟩ (by rw [arr_size, HFL.out]; kernel_rfl) (arr_one F) (fun W hg hb => HV.out.then_new hg (fun x e => by have e : x = g7 := e; have := HVs.out; omega)) ?_
    intro X1 hg1 h71
    try simp only [Act.put, sA, sB, sC]
    have HV1 := Lh (HV.out.then_new hg1 (fun x e => by have e : x = g7 := e; have := HVs.out; omega))
    have H81 := Lh (blk_keep H8.out hg1 (fun e => hne e.symm))
    refine h_store 6 162 (.tmp 8) (.tmp 17) g8 S0 (by kernel_rfl) rfl (by kernel_rfl) rfl rfl rfl rfl 162 ⟨_, H81.out, by rw [HZ8.out, HS0s.out]⟩ (by rw [HS0s.out]; kernel_rfl) (by rw [← HS0.out]; exact arr_one _) (fun W hg hb => HV1.out.then_new hg (fun x e => by have e : x = g8 := e; have := HVs.out; omega)) ?_
    intro X2 hg2 h82
    try simp only [Act.put, sA, sB, sC]
    refine hdn ?_ _
    exact ⟨rfl, (g7, g8), by kernel_rfl, blk_keep h71 hg2 (fun e => hne e), h82, HV1.out.then_new hg2 (fun x e => by have e : x = g8 := e; have := HVs.out; omega), hge7, hge8, hne⟩
  ·intro K hK
   go_simp
   try rw [← hz8]
   refine hK.out _ _ (HV.out.alloc _) (fun _ => ?_)
   clear hK K
   try simp only [Act.put, sA, sB, sC]
   have hnew := blk_new V (.cells Z8 162)
   have hgX : Chg Non V (V.alloc (.cells Z8 162)) := (Chg.refl Non V).alloc _
   have hge8 : b3 + 3 ≤ V.heap.size := by have h1 := HV.out.size; have h2 := HVs.out; omega
   have HV := Lh (HV.out.then_non hgX)
   obtain ⟨u1, hU⟩ : ∃ X, V.alloc (.cells Z8 162) = X := ⟨_, rfl⟩
   rw [hU] at hnew HV ⊢
   clear hgX hU
   obtain ⟨g8, hg8⟩ : ∃ k, V.heap.size = k := ⟨_, rfl⟩
   rw [hg8] at hnew hge8 ⊢
   have H8 := Lh hnew
   clear hnew
   clear hg8
   refine hTwo 1 3 (by kernel_rfl) rfl rfl (by kernel_rfl) (by kernel_rfl) ?_ ?_
   ·intro K hK
    go_simp
    refine (HSc.out _ (HGV.out.then_non HV.out)).mono ?_
    rintro e u2 ⟨rfl, hgX⟩
    refine hK.out _ _ (HV.out.then_non hgX) (fun _ => ?_)
    clear hK K
    try simp only [Act.put, sA, sB, sC]
    have H8 := Lh (blk_keep H8.out hgX (fun e => e))
    have HV := Lh (HV.out.then_non hgX)
    clear hgX
    refine h1o 3 rfl ?_
    intro K hK
    go_simp
    try rw [← hz64]
    refine hK.out _ _ (HV.out.alloc _) (fun _ => ?_)
    clear hK K
    try simp only [Act.put, sA, sB, sC]
    have hlo := blk_lt H8.out
    have hnew := blk_new u2 (.cells Z64 164)
    have hgX : Chg Non u2 (u2.alloc (.cells Z64 164)) := (Chg.refl Non u2).alloc _
    have H8 := Lh (blk_keep H8.out hgX (fun e => e))
    have hge7 : b3 + 3 ≤ u2.heap.size := by have h1 := HV.out.size; have h2 := HVs.out; omega
    have HV := Lh (HV.out.then_non hgX)
    obtain ⟨u3, hU⟩ : ∃ X, u2.alloc (.cells Z64 164) = X := ⟨_, rfl⟩
    rw [hU] at hnew HV ⊢
    rw [hU] at H8
    clear hgX hU
    obtain ⟨g7, hg7⟩ : ∃ k, u2.heap.size = k := ⟨_, rfl⟩
    rw [hg7] at hnew hge7 ⊢
    have H7 := Lh hnew
    clear hnew
    rw [hg7] at hlo
    have hne : g7 ≠ g8 := by omega
    clear hg7
    refine h_store 5 164 (.tmp 7) (.tmp 16) g7 (arr F) (by kernel_rfl) rfl (by kernel_rfl) rfl rfl rfl rfl 164 ⟨_, H7.out, by rw [HZ64.out, arr_size, HFL.out]⟩ (by rw [arr_size, HFL.out]; kernel_rfl) (arr_one F) (fun W hg hb => HV.out.then_new hg (fun x e => by have e : x = g7 := e; have := HVs.out; omega)) ?_
    intro X1 hg1 h71
    try simp only [Act.put, sA, sB, sC]
    have HV1 := Lh (HV.out.then_new hg1 (fun x e => by have e : x = g7 := e; have := HVs.out; omega))
    have H81 := Lh (blk_keep H8.out hg1 (fun e => hne e.symm))
    refine h_store 6 162 (.tmp 8) (.tmp 17) g8 S0 (by kernel_rfl) rfl (by kernel_rfl) rfl rfl rfl rfl 162 ⟨_, H81.out, by rw [HZ8.out, HS0s.out]⟩ (by rw [HS0s.out]; kernel_rfl) (by rw [← HS0.out]; exact arr_one _) (fun W hg hb => HV1.out.then_new hg (fun x e => by have e : x = g8 := e; have := HVs.out; omega)) ?_
    intro X2 hg2 h82
    try simp only [Act.put, sA, sB, sC]
    refine hdn ?_ _
    exact ⟨rfl, (g7, g8), by kernel_rfl, blk_keep h71 hg2 (fun e => hne e), h82, HV1.out.then_new hg2 (fun x e => by have e : x = g8 := e; have := HVs.out; omega), hge7, hge8, hne⟩
   ·intro K hK
    go_simp
    try rw [← hz64]
    refine hK.out _ _ (HV.out.alloc _) (fun _ => ?_)
    clear hK K
    try simp only [Act.put, sA, sB, sC]
    have hlo := blk_lt H8.out
    have hnew := blk_new u1 (.cells Z64 164)
    have hgX : Chg Non u1 (u1.alloc (.cells Z64 164)) := (Chg.refl Non u1).alloc _
    have H8 := Lh (blk_keep H8.out hgX (fun e => e))
    have hge7 : b3 + 3 ≤ u1.heap.size := by have h1 := HV.out.size; have h2 := HVs.out; omega
    have HV := Lh (HV.out.then_non hgX)
    obtain ⟨u2, hU⟩ : ∃ X, u1.alloc (.cells Z64 164) = X := ⟨_, rfl⟩
    rw [hU] at hnew HV ⊢
    rw [hU] at H8
    clear hgX hU
    obtain ⟨g7, hg7⟩ : ∃ k, u1.heap.size = k := ⟨_, rfl⟩
    rw [hg7] at hnew hge7 ⊢
    have H7 := Lh hnew
    clear hnew
    rw [hg7] at hlo
    have hne : g7 ≠ g8 := by omega
    clear hg7
    refine h1o 1 rfl ?_
    intro K hK
    go_simp
    refine (HSc.out _ (HGV.out.then_non HV.out)).mono ?_
    rintro e u3 ⟨rfl, hgX⟩
    refine hK.out _ _ (HV.out.then_non hgX) (fun _ => ?_)
    clear hK K
    try simp only [Act.put, sA, sB, sC]
    have H8 := Lh (blk_keep H8.out hgX (fun e => e))
    have H7 := Lh (blk_keep H7.out hgX (fun e => e))
    have HV := Lh (HV.out.then_non hgX)
    clear hgX
    refine h_store 5 164 (.tmp 7) (.tmp 16) g7 (arr F) (by kernel_rfl) rfl (by kernel_rfl) rfl rfl rfl rfl 164 ⟨_, H7.out, by rw [HZ64.out, arr_size, HFL.out]⟩ (by rw [arr_size, HFL.out]; kernel_rfl) (arr_one F) (fun W hg hb => HV.out.then_new hg (fun x e => by have e : x = g7 := e; have := HVs.out; omega)) ?_
    intro X1 hg1 h71
    try simp only [Act.put, sA, sB, sC]
    have HV1 := Lh (HV.out.then_new hg1 (fun x e => by have e : x = g7 := e; have := HVs.out; omega))
    have H81 := Lh (blk_keep H8.out hg1 (fun e => hne e.symm))
    refine h_store 6 162 (.tmp 8) (.tmp 17) g8 S0 (by kernel_rfl) rfl (by kernel_rfl) rfl rfl rfl rfl 162 ⟨_, H81.out, by rw [HZ8.out, HS0s.out]⟩ (by rw [HS0s.out]; kernel_rfl) (by rw [← HS0.out]; exact arr_one _) (fun W hg hb => HV1.out.then_new hg (fun x e => by have e : x = g8 := e; have := HVs.out; omega)) ?_
    intro X2 hg2 h82
    try simp only [Act.put, sA, sB, sC]
    refine hdn ?_ _
    exact ⟨rfl, (g7, g8), by kernel_rfl, blk_keep h71 hg2 (fun e => hne e), h82, HV1.out.then_new hg2 (fun x e => by have e : x = g8 := e; have := HVs.out; omega), hge7, hge8, hne⟩
 ·rintro ⟨g7, g8⟩ v ⟨h7, h8, hgv, hge7, hge8, hne⟩
  simp only at h7 h8 hge7 hge8 hne
  have HB3v := Lh (blk_keep HQ3.out hgv (fun e => e))
  have HB5v := Lh (blk_keep HQ5.out hgv (fun e => e))
  have HB6v := Lh (blk_keep HQ6.out hgv (fun e => e))
  have HGv := Lh (HGV.out.then_non hgv)
  have HB7v := Lh h7
  have HB8v : Hid (v.heap[g8]? = some (.cells (arr (rnds shaK F 0 s).l) 162 (0, 0))) := Lh (by show v.heap[g8]? = some (.cells (arr s.l) 162 (0, 0)); rw [HS0.out]; exact h8)
  have HKK : Hid (∀ k, k < 64 → ∃ y, shaK[k]? = some y ∧ y < 4294967296) := Lh (fun k hk => ⟨_, List.getElem?_eq_getElem (show k < shaK.length from hk), by have h := shaK_lt k; rwa [List.getD_eq_getElem?_getD, List.getElem?_eq_getElem (show k < shaK.length from hk)] at h⟩)
  clear h7 h8 hgv hV hz8 hz64
  try simp only [Act.put, sA, sB, sC]
  go_wp2_with fail
  go_loopw [18] (fun iv wr => ∃ k : Nat, k ≤ 64 ∧ iv = .int .i64 k ∧ Hid (wr.heap[g8]? = some (.cells (arr (rnds shaK F k s).l) 162 (0, 0))) ∧ Hid (Chg (fun k => k = g8) v wr)) (fun iv _ => 64 - (intOf iv).toNat)
  case atStart => exact ⟨0, Nat.zero_le _, rfl, HB8v, Lh (Chg.refl _ _)⟩
  case round =>
   obtain ⟨k, hk, rfl, HB8, HG8⟩ := hrel
   by_cases hlt : k < 64
   ·obtain ⟨kk, hkk, bkk⟩ := HKK.out k hlt
    obtain ⟨ww, hww⟩ : ∃ y, F[k]? = some y := ⟨_, List.getElem?_eq_getElem (by rw [HFL.out]; exact hlt)⟩
    have bww := HLt.out _ _ hww
    have hok := rnds_ok shaK F HOk.out k
    have HRn : Hid (rnds shaK F (k + 1) s = rnd (rnds shaK F k s) kk ww) := Lh (by
      show rnd (rnds shaK F k s) (shaK.getD k 0) (F.getD k 0) = _
      rw [getD_some hkk, getD_some hww])
    obtain ⟨x, hx⟩ : ∃ x, rnds shaK F k s = x := ⟨_, rfl⟩
    rw [hx] at HB8 hok HRn
    clear hx
    obtain ⟨a, b, c, d, e, f, g, h⟩ := x
    obtain ⟨ba, bb, bc, bd, be_, bf, bg, bh⟩ := hok
    simp only at ba bb bc bd be_ bf bg bh
    unfold W32 at ba bb bc bd be_ bf bg bh
    have k5 : wr.cell? ⟨b3 + 1, k, none⟩ = some (.int .u32 (kk : Int)) := by
     have h := blk_keep HB5v.out HG8.out (fun e => by have e : b3 + 1 = g8 := e; omega)
     rw [← HKc.out] at h
     exact blk_cell h k (arr_at hkk)
    have k7 : wr.cell? ⟨g7, k, none⟩ = some (.int .u32 (ww : Int)) := blk_cell (blk_keep HB7v.out HG8.out (fun e => hne e)) k (arr_at hww)
    clear hkk hww
    have HT1 : Hid (∀ W, Calls Tryz.prog 181 #[.int .u32 e, .int .i64 6, .int .i64 11, .int .i64 25] W fun e' w' => e' = .returned (.int .u32 (up1 e : Nat)) ∧ W = w') := Lh (fun W => Turned_ok e 6 11 25 be_ (by omega) (by omega) (by omega) (by omega) (by omega) (by omega) W)
    have HT2 : Hid (∀ W, Calls Tryz.prog 181 #[.int .u32 a, .int .i64 2, .int .i64 13, .int .i64 22] W fun e' w' => e' = .returned (.int .u32 (up0 a : Nat)) ∧ W = w') := Lh (fun W => Turned_ok a 2 13 22 ba (by omega) (by omega) (by omega) (by omega) (by omega) (by omega) W)
    have HRt : Hid (rT ⟨a, b, c, d, e, f, g, h⟩ kk ww = (h + up1 e + chs e f g + kk + ww) % 4294967296) := Lh rfl
    have HRu : Hid (rU ⟨a, b, c, d, e, f, g, h⟩ = (up0 a + mst a b c) % 4294967296) := Lh rfl
    have X1 := Lh (u32_xor_nat f g bf bg)
    have X2 := Lh (u32_and_nat e (f ^^^ g) be_ (x32 bf bg))
    have X3 : Hid (bits .xor .u32 (g : Int) ((e &&& (f ^^^ g) : Nat) : Int) = ((chs e f g : Nat) : Int)) := Lh (u32_xor_nat g (e &&& (f ^^^ g)) bg (Nat.and_lt_two_pow (n := 32) _ (x32 bf bg)))
    have Y1 := Lh (u32_and_nat a b ba bb)
    have Y2 := Lh (u32_or_nat a b ba bb)
    have Y3 := Lh (u32_and_nat c (a ||| b) bc (Nat.or_lt_two_pow (n := 32) ba bb))
    have Y4 : Hid (bits .or .u32 ((a &&& b : Nat) : Int) ((c &&& (a ||| b) : Nat) : Int) = ((mst a b c : Nat) : Int)) := Lh (u32_or_nat (a &&& b) (c &&& (a ||| b)) (Nat.and_lt_two_pow (n := 32) _ bb) (Nat.and_lt_two_pow (n := 32) _ (Nat.or_lt_two_pow (n := 32) ba bb)))
    have bch := chs_lt (e := e) bf bg
    have bmo := mst_lt (c := c) ba bb
    have bu1 := up1_lt be_
    have bu0 := up0_lt ba
    unfold W32 at bch bmo bu1 bu0
    obtain ⟨y1, hy1⟩ : ∃ y, f ^^^ g = y := ⟨_, rfl⟩
    rw [hy1] at X1 X2 X3
    obtain ⟨y2, hy2⟩ : ∃ y, e &&& y1 = y := ⟨_, rfl⟩
    rw [hy2] at X2 X3
    obtain ⟨ch, hch⟩ : ∃ y, chs e f g = y := ⟨_, rfl⟩
    rw [hch] at X3 HRt bch
    obtain ⟨z1, hz1⟩ : ∃ y, a &&& b = y := ⟨_, rfl⟩
    rw [hz1] at Y1 Y4
    obtain ⟨z2, hz2⟩ : ∃ y, a ||| b = y := ⟨_, rfl⟩
    rw [hz2] at Y2 Y3 Y4
    obtain ⟨z3, hz3⟩ : ∃ y, c &&& z2 = y := ⟨_, rfl⟩
    rw [hz3] at Y3 Y4
    obtain ⟨mo, hmo⟩ : ∃ y, mst a b c = y := ⟨_, rfl⟩
    rw [hmo] at Y4 HRu bmo
    obtain ⟨u1, hu1⟩ : ∃ y, up1 e = y := ⟨_, rfl⟩
    rw [hu1] at HT1 HRt bu1
    obtain ⟨u0, hu0⟩ : ∃ y, up0 a = y := ⟨_, rfl⟩
    rw [hu0] at HT2 HRu bu0
    clear hy1 hy2 hch hz1 hz2 hz3 hmo hu1 hu0
    have HB8' : Hid (wr.heap[g8]? = some (.cells (arr [a, b, c, d, e, f, g, h]) 162 (0, 0))) := HB8
    have e0 := blk_cell HB8'.out 0 (v := .int .u32 (a : Int)) rfl
    have e1 := blk_cell HB8'.out 1 (v := .int .u32 (b : Int)) rfl
    have e2 := blk_cell HB8'.out 2 (v := .int .u32 (c : Int)) rfl
    have e3 := blk_cell HB8'.out 3 (v := .int .u32 (d : Int)) rfl
    have e4 := blk_cell HB8'.out 4 (v := .int .u32 (e : Int)) rfl
    have e5 := blk_cell HB8'.out 5 (v := .int .u32 (f : Int)) rfl
    have e6 := blk_cell HB8'.out 6 (v := .int .u32 (g : Int)) rfl
    have e7 := blk_cell HB8'.out 7 (v := .int .u32 (h : Int)) rfl
    have hkI : (k : Int) < 64 := by omega
    clear HB8
    go_wp2_with (first | rw [X1.out] | rw [X2.out] | rw [X3.out] | rw [Y1.out] | rw [Y2.out] | rw [Y3.out] | rw [Y4.out])
    refine wp_region_still_tail 16 (by kernel_rfl) (by kernel_rfl) ?_
    simp only [List.take_succ_cons, List.take_zero, List.drop_succ_cons, List.drop_zero]
    change wpStill _ _ wr.drew (fun a' => wpList _ _ _ _ a' wr.drew) _ _
    have HB8d := Lh (blk_keep HB8'.out ((Chg.refl Non wr).drew) (fun e => e))
    have HG8d := Lh (HG8.out.drew)
    have e0 : wr.drew.cell? ⟨g8, 0, none⟩ = some (.int .u32 (a : Int)) := e0
    have e3 : wr.drew.cell? ⟨g8, 3, none⟩ = some (.int .u32 (d : Int)) := e3
    have e4 : wr.drew.cell? ⟨g8, 4, none⟩ = some (.int .u32 (e : Int)) := e4
    have e7 : wr.drew.cell? ⟨g8, 7, none⟩ = some (.int .u32 (h : Int)) := e7
    have k5 : wr.drew.cell? ⟨b3 + 1, k, none⟩ = some (.int .u32 (kk : Int)) := k5
    have k7 : wr.drew.cell? ⟨g7, k, none⟩ = some (.int .u32 (ww : Int)) := k7
    clear HG8 HB8' e1 e2 e5 e6
    generalize wr.drew = u7 at HB8d HG8d e0 e3 e4 e7 k5 k7 ⊢
    iterate 4 still_step
    still_call ((HT1.out u7).mono (fun e w' h => ⟨h.1, h.2.symm⟩))
    iterate 11 still_step
    refine wpStill_nil ?_
    clear k5 k7
    go_wp2_with fail
    refine (HT2.out _).mono ?_
    rintro e' w' ⟨rfl, rfl⟩
    go_wp2_with fail
    have btt : rT ⟨a, b, c, d, e, f, g, h⟩ kk ww < 4294967296 := Nat.mod_lt _ (by decide)
    have buu : rU ⟨a, b, c, d, e, f, g, h⟩ < 4294967296 := Nat.mod_lt _ (by decide)
    have HRn' : Hid ((rnd ⟨a, b, c, d, e, f, g, h⟩ kk ww).l = [(rT ⟨a, b, c, d, e, f, g, h⟩ kk ww + rU ⟨a, b, c, d, e, f, g, h⟩) % 4294967296, a, b, c, (d + rT ⟨a, b, c, d, e, f, g, h⟩ kk ww) % 4294967296, e, f, g]) := Lh rfl
    obtain ⟨tt, htt⟩ : ∃ y, rT ⟨a, b, c, d, e, f, g, h⟩ kk ww = y := ⟨_, rfl⟩
    obtain ⟨uu, huu⟩ : ∃ y, rU ⟨a, b, c, d, e, f, g, h⟩ = y := ⟨_, rfl⟩
    rw [htt] at btt HRt HRn'
    rw [huu] at buu HRu HRn'
    clear htt huu
    have HT3 : IntKind.u32.wrap (IntKind.u32.wrap (IntKind.u32.wrap (IntKind.u32.wrap ((h : Int) + (u1 : Int)) + (ch : Int)) + (kk : Int)) + (ww : Int)) = (tt : Int) := by
     rw [HRt.out]
     simp only [IntKind.wrap_u32]
     omega
    have HU3 : ((u0 : Int) + (mo : Int)) % 4294967296 = (uu : Int) := by
     rw [HRu.out]
     omega
    rw [HT3, HU3]
    clear HT3 HU3
    refine wp_region_still_tail 2 (by kernel_rfl) (by kernel_rfl) ?_
    simp only [List.take_succ_cons, List.take_zero, List.drop_succ_cons, List.drop_zero]
    change wpStill _ _ u7.drew (fun a' => wpList _ _ _ _ a' u7.drew) _ _
    have HB8e := Lh (blk_keep HB8d.out ((Chg.refl Non u7).drew) (fun e => e))
    have HG8e := Lh (HG8d.out.drew)
    clear e0 e3 e4 e7 HB8d HG8d
    generalize u7.drew = u8 at HB8e HG8e ⊢
    iterate 2 still_step
    refine wpStill_nil ?_
    refine wpList_plain rfl fun K hK => ?_
    refine wp_copy_row (.tmp 67) (.tmp 68) 242 242 160 rfl Tryz.underlying242 (by kernel_rfl) g8 1 7 7 ⟨g8, 0, none⟩ 7 8 (arr [a, b, c, d, e, f, g, h]) 162 [.int .u32 (a : Int), .int .u32 (b : Int), .int .u32 (c : Int), .int .u32 (d : Int), .int .u32 (e : Int), .int .u32 (f : Int), .int .u32 (g : Int)] rfl rfl HB8e.out rfl ?_ (by rw [arr_size]; simp) ?_ ?_
    ·intro j v hv
     rw [addr_none, Nat.zero_add]
     refine blk_cell HB8e.out j ?_
     have hj := (List.getElem?_eq_some_iff.1 hv).1
     simp only [List.length_cons, List.length_nil] at hj
     have hc : j = 0 ∨ j = 1 ∨ j = 2 ∨ j = 3 ∨ j = 4 ∨ j = 5 ∨ j = 6 := by omega
     rcases hc with rfl | rfl | rfl | rfl | rfl | rfl | rfl <;> exact hv
    ·intro v hv
     simp only [List.mem_cons, List.not_mem_nil, or_false] at hv
     rcases hv with rfl | rfl | rfl | rfl | rfl | rfl | rfl <;> rfl
    intro u9 hg9 hb9
    have HB9 : Hid (u9.heap[g8]? = some (.cells (arr [a, a, b, c, d, e, f, g]) 162 (0, 0))) := Lh hb9
    have HG9 := Lh (HG8e.out.trans_same hg9)
    clear hb9 hg9 HB8e HG8e
    refine hK _ _ ?_
    clear hK K
    have e4 := blk_cell HB9.out 4 (v := .int .u32 (d : Int)) rfl
    have f4 := blk_free HB9.out 4
    have HBa : Hid ((u9.setCell ⟨g8, 4, none⟩ (.int .u32 (((d + tt) % 4294967296 : Nat) : Int))).heap[g8]? = some (.cells (arr [a, a, b, c, (d + tt) % 4294967296, e, f, g]) 162 (0, 0))) := Lh (blk_set 4 _ HB9.out)
    have HBb : Hid (((u9.setCell ⟨g8, 4, none⟩ (.int .u32 (((d + tt) % 4294967296 : Nat) : Int))).setCell ⟨g8, 0, none⟩ (.int .u32 (((tt + uu) % 4294967296 : Nat) : Int))).heap[g8]? = some (.cells (arr (rnds shaK F (k + 1) s).l) 162 (0, 0))) := Lh (by
      rw [HRn.out, HRn'.out]
      exact blk_set 0 _ HBa.out)
    have q0 := blk_cell HBa.out 0 (v := .int .u32 (a : Int)) rfl
    have qf := blk_free HBa.out 0
    have D1 : Hid (((d : Int) + (tt : Int)) % 4294967296 = (((d + tt) % 4294967296 : Nat) : Int)) := Lh (by omega)
    have D2 : Hid (((tt : Int) + (uu : Int)) % 4294967296 = (((tt + uu) % 4294967296 : Nat) : Int)) := Lh (by omega)
    have HGb : Hid (Chg (fun k => k = g8) v ((u9.setCell ⟨g8, 4, none⟩ (.int .u32 (((d + tt) % 4294967296 : Nat) : Int))).setCell ⟨g8, 0, none⟩ (.int .u32 (((tt + uu) % 4294967296 : Nat) : Int)))) := Lh ((HG9.out.trans_same (chg_set _ _ _ _)).trans_same (chg_set _ _ _ _))
    obtain ⟨d4, hd4⟩ : ∃ y, (d + tt) % 4294967296 = y := ⟨_, rfl⟩
    obtain ⟨d0, hd0⟩ : ∃ y, (tt + uu) % 4294967296 = y := ⟨_, rfl⟩
    rw [hd4] at HBa HBb q0 qf D1 HGb
    rw [hd0] at HBb D2 HGb
    clear hd4 hd0
    go_wp2_with (first | rw [D1.out] | rw [D2.out])
    exact ⟨⟨k + 1, by omega, by go_num, HBb, HGb⟩, by simp [intOf]; omega⟩
   ·obtain rfl : k = 64 := by omega
    rw [show Value.int .i64 ((64 : Nat) : Int) = .int .i64 64 from rfl]
    have HEa : Hid (eatL s b = (rnds shaK F 64 s).add s) := Lh (by unfold eatL; rw [HFe.out])
    have HOk2 := Lh (rnds_ok shaK F HOk.out 64)
    obtain ⟨x, hx⟩ : ∃ x, rnds shaK F 64 s = x := ⟨_, rfl⟩
    rw [hx] at HB8 HEa HOk2
    clear hx
    go_wp2_with fail
    go_loopw [80] (fun iv wr => ∃ j : Nat, j ≤ 8 ∧ iv = .int .i64 j ∧ Hid (wr.heap[g8]? = some (.cells (arr (mix (x.add s).l x.l j)) 162 (0, 0))) ∧ Hid (Chg (fun k => k = g8) v wr)) (fun iv _ => 8 - (intOf iv).toNat)
    case atStart => exact ⟨0, Nat.zero_le _, rfl, HB8, HG8⟩
    case round =>
     clear HB8 HG8
     obtain ⟨j, hj, rfl, HB8, HG8⟩ := hrel
     by_cases hjl : j < 8
     ·obtain ⟨p, hp⟩ : ∃ y, x.l[j]? = some y := ⟨_, List.getElem?_eq_getElem (show j < 8 from hjl)⟩
      obtain ⟨q, hq⟩ : ∃ y, s.l[j]? = some y := ⟨_, List.getElem?_eq_getElem (show j < 8 from hjl)⟩
      have hjI : (j : Int) < 8 := by omega
      have HSet : Hid ((arr (mix (x.add s).l x.l j)).setIfInBounds j (.int .u32 (((p + q) % W32 : Nat) : Int)) = arr (mix (x.add s).l x.l (j + 1))) := Lh (by rw [arr_set, mix_set (A := (x.add s).l) (X := x.l) rfl (St.add_at hp hq)])
      have D1 : Hid (((p : Int) + (q : Int)) % 4294967296 = (((p + q) % W32 : Nat) : Int)) := Lh (by unfold W32; omega)
      obtain ⟨d0, hd0⟩ : ∃ y, (p + q) % W32 = y := ⟨_, rfl⟩
      rw [hd0] at HSet D1
      have bp := St.l_lt HOk2.out hp
      have bq := St.l_lt HOk.out hq
      go_wp2_with fail
      refine wp_region_still_tail 8 (by kernel_rfl) (by kernel_rfl) ?_
      simp only [List.take_succ_cons, List.take_zero, List.drop_succ_cons, List.drop_zero]
      change wpStill _ _ wr.drew (fun a' => wpList _ _ _ _ a' wr.drew) _ _
      have HB8d := Lh (blk_keep HB8.out ((Chg.refl Non wr).drew) (fun e => e))
      have HG8d := Lh (HG8.out.drew)
      have e0 : wr.drew.cell? ⟨g8, j, none⟩ = some (.int .u32 (p : Int)) := blk_cell HB8d.out j (arr_at (mix_at (A := (x.add s).l) (X := x.l) rfl hp))
      have e1 : wr.drew.cell? ⟨b3, j, none⟩ = some (.int .u32 (q : Int)) := by
       have h := blk_keep HB3v.out HG8d.out (fun e => by have e : b3 = g8 := e; omega)
       rw [← HS0.out] at h
       exact blk_cell h j (arr_at hq)
      clear HG8 HB8 hd0 hp hq
      generalize wr.drew = u7 at HB8d HG8d e0 e1 ⊢
      iterate 8 still_step
      refine wpStill_nil ?_
      have f0 := blk_free HB8d.out j
      clear e1
      go_wp2_with (first | rw [D1.out])
      go_roundw
      case rel => exact ⟨j + 1, by omega, by go_num, Lh (by rw [heap_setCell_same _ _ _ _ _ _ HB8d.out, HSet.out]), Lh (HG8d.out.trans_same (chg_set _ _ _ _))⟩
      case measure => simp [intOf]; omega
     ·obtain rfl : j = 8 := by omega
      have HBF : Hid (wr.heap[g8]? = some (.cells (arr (eatL s b).l) 162 (0, 0))) := Lh (by rw [HEa.out]; exact HB8.out)
      have HB6' := Lh (blk_keep HB6v.out HG8.out (fun e => by have e : b3 + 1 + 1 = g8 := e; omega))
      obtain ⟨R, hR⟩ : ∃ R, arr (eatL s b).l = R := ⟨_, rfl⟩
      have HRs : Hid (R.size = 8) := Lh (by rw [← hR, arr_size]; rfl)
      have HRo : Hid (R.all (·.oneCell') = true) := Lh (by rw [← hR]; exact arr_one _)
      rw [hR] at HBF
      have HRe := Lh hR
      clear hR
      go_wp2_with (first
        | (refine sel (some 92) (.load 162 (.tmp 8)) ?_; refine wpList_load_row rfl 162 (.tmp 8) rfl g8 rfl 162 R (0, 0) _ HBF.out Tryz.underlying162 rfl (by rw [HRs.out]; kernel_rfl) ?_)
        | (refine sel none (.store 162 (.tmp 6) (.tmp 92)) ?_
           refine wpList_store_rowA rfl 162 (.tmp 6) (.tmp 92) rfl (b3 + 1 + 1) R rfl rfl 162 _ HB6'.out (by rw [HRs.out]; kernel_rfl) (HZ8.out.trans HRs.out.symm) HRo.out ?_
           intro W1 hgW1 hbW1))
      refine bodyPost_ret (results_cell_row Tryz.results106 _ _ (b3 + 1 + 1) 162 R (0, 0) _ rfl hbW1 Tryz.underlying162 rfl (by rw [HRs.out]; kernel_rfl)) rfl ⟨by rw [HRe.out], ?_⟩
      have hb3' := HB3.out
      exact (HGv.out.then_new HG8.out (fun x e => by have e : x = g8 := e; omega)).then_new hgW1 (fun x e => by have e : x = b3 + 1 + 1 := e; omega)
end
section
open Go.RowKit
def p4 (s : St) (k : Nat) : List UInt8 := (s.l.take k).flatMap fun x => be x 4
theorem p4_len (s : St) (k : Nat) (hk : k ≤ 8) : (p4 s k).length = 4 * k := by
 have key : ∀ l : List Nat, (l.flatMap fun x => be x 4).length = 4 * l.length := fun l => by
  induction l with
  | nil => rfl
  | cons x r ih => rw [List.flatMap_cons, List.length_append, be_length, ih, List.length_cons]; omega
 unfold p4
 rw [key, List.length_take]
 show 4 * min k 8 = 4 * k
 omega
theorem p4_step (s : St) (k x : Nat) (hx : s.l[k]? = some x) : p4 s (k + 1) = p4 s k ++ be x 4 := by
 obtain ⟨hk, rfl⟩ := List.getElem?_eq_some_iff.1 hx
 unfold p4
 rw [List.take_succ_eq_append_getElem hk, List.flatMap_append]
 simp
theorem p4_all (s : St) : p4 s 8 = s.print := by
 unfold p4 St.print St.l
 simp [List.append_assoc]
def pL (s : St) (k : Nat) : List UInt8 := p4 s k ++ List.replicate (32 - 4 * k) 0
theorem pL_step (s : St) (k x : Nat) (hk : k < 8) (hx : s.l[k]? = some x) : ((pL s k).map bv).take (4 * k) ++ (be x 4).map bv ++ ((pL s k).map bv).drop (4 * k + 4) = (pL s (k + 1)).map bv := by
 have hl := p4_len s k (by omega)
 unfold pL
 rw [p4_step s k x hx, ← List.map_take, ← List.map_drop, List.take_left' hl, ← List.map_append, ← List.map_append]
 congr 2
 rw [List.drop_append, List.drop_eq_nil_of_le (by omega), hl, List.nil_append, List.drop_replicate]
 congr 1
 omega
theorem pL_len (s : St) (k : Nat) (hk : k ≤ 8) : (pL s k).length = 32 := by
 unfold pL
 rw [List.length_append, p4_len s k hk, List.length_replicate]
 omega
theorem pL_all (s : St) : pL s 8 = s.print := by
 unfold pL
 rw [p4_all]
 simp
theorem sidx (s : St) (k x : Nat) (hk : k < 8) (hx : s.l[k]? = some x) (W : World) : (Instr.index 162 (.agg (arr s.l)) (.int .i64 (k : Int))).run Tryz.prog W = .ok (.int .u32 (x : Int)) W := by
 have x0 : ∀ (v0 v1 v2 v3 v4 v5 v6 v7 : Value) (W : World), (Instr.index 162 (.agg #[v0, v1, v2, v3, v4, v5, v6, v7]) (.int .i64 0)).run Tryz.prog W = .ok v0 W := fun _ _ _ _ _ _ _ _ _ => by kernel_rfl
 have x1 : ∀ (v0 v1 v2 v3 v4 v5 v6 v7 : Value) (W : World), (Instr.index 162 (.agg #[v0, v1, v2, v3, v4, v5, v6, v7]) (.int .i64 1)).run Tryz.prog W = .ok v1 W := fun _ _ _ _ _ _ _ _ _ => by kernel_rfl
 have x2 : ∀ (v0 v1 v2 v3 v4 v5 v6 v7 : Value) (W : World), (Instr.index 162 (.agg #[v0, v1, v2, v3, v4, v5, v6, v7]) (.int .i64 2)).run Tryz.prog W = .ok v2 W := fun _ _ _ _ _ _ _ _ _ => by kernel_rfl
 have x3 : ∀ (v0 v1 v2 v3 v4 v5 v6 v7 : Value) (W : World), (Instr.index 162 (.agg #[v0, v1, v2, v3, v4, v5, v6, v7]) (.int .i64 3)).run Tryz.prog W = .ok v3 W := fun _ _ _ _ _ _ _ _ _ => by kernel_rfl
 have x4 : ∀ (v0 v1 v2 v3 v4 v5 v6 v7 : Value) (W : World), (Instr.index 162 (.agg #[v0, v1, v2, v3, v4, v5, v6, v7]) (.int .i64 4)).run Tryz.prog W = .ok v4 W := fun _ _ _ _ _ _ _ _ _ => by kernel_rfl
 have x5 : ∀ (v0 v1 v2 v3 v4 v5 v6 v7 : Value) (W : World), (Instr.index 162 (.agg #[v0, v1, v2, v3, v4, v5, v6, v7]) (.int .i64 5)).run Tryz.prog W = .ok v5 W := fun _ _ _ _ _ _ _ _ _ => by kernel_rfl
 have x6 : ∀ (v0 v1 v2 v3 v4 v5 v6 v7 : Value) (W : World), (Instr.index 162 (.agg #[v0, v1, v2, v3, v4, v5, v6, v7]) (.int .i64 6)).run Tryz.prog W = .ok v6 W := fun _ _ _ _ _ _ _ _ _ => by kernel_rfl
 have x7 : ∀ (v0 v1 v2 v3 v4 v5 v6 v7 : Value) (W : World), (Instr.index 162 (.agg #[v0, v1, v2, v3, v4, v5, v6, v7]) (.int .i64 7)).run Tryz.prog W = .ok v7 W := fun _ _ _ _ _ _ _ _ _ => by kernel_rfl
 rcases (show k = 0 ∨ k = 1 ∨ k = 2 ∨ k = 3 ∨ k = 4 ∨ k = 5 ∨ k = 6 ∨ k = 7 by omega) with rfl | rfl | rfl | rfl | rfl | rfl | rfl | rfl
 ·injection hx with hx; subst hx; exact x0 _ _ _ _ _ _ _ _ W
 ·injection hx with hx; subst hx; exact x1 _ _ _ _ _ _ _ _ W
 ·injection hx with hx; subst hx; exact x2 _ _ _ _ _ _ _ _ W
 ·injection hx with hx; subst hx; exact x3 _ _ _ _ _ _ _ _ W
 ·injection hx with hx; subst hx; exact x4 _ _ _ _ _ _ _ _ W
 ·injection hx with hx; subst hx; exact x5 _ _ _ _ _ _ _ _ W
 ·injection hx with hx; subst hx; exact x6 _ _ _ _ _ _ _ _ W
 ·injection hx with hx; subst hx; exact x7 _ _ _ _ _ _ _ _ W
theorem tagSl (k : Nat) (hk : k < 8) (b : Nat) (W : World) : (Instr.sliceAt 23 (.pointer (some ⟨b, 0, none⟩)) (some (.int .i64 (4 * (k : Int)))) none none).run Tryz.prog W = .ok (.slice (some ⟨b, 4 * k, none⟩) (32 - 4 * k) (32 - 4 * k)) W := by
 have e : Tryz.prog.arrayLen 23 = 32 := by kernel_rfl
 have h := run_sliceAt_array_l (P := Tryz.prog) W 23 ⟨b, 0, none⟩ (by kernel_rfl) .i64 (4 * (k : Int)) (by omega) (by rw [e]; omega)
 have e1 : (sizeOf (Tryz.prog.elem 23)).run Tryz.prog W = .ok 1 W := by kernel_rfl
 rw [h, e1, e]
 show Result.ok (slicedAt ⟨b, 0, none⟩ (4 * (k : Int)).toNat 32 32 1) W = _
 rw [show (4 * (k : Int)).toNat = 4 * k by omega]
 unfold slicedAt
 rw [if_neg (by omega), addr_none, Nat.zero_add, Nat.mul_one]
theorem info_tagS : (Tryz.prog.info? 23).map (·.size) = some 32 := by kernel_rfl
theorem zeroT (s : St) : (((pL s 0).map bv).toArray) = #[.int .u8 0, .int .u8 0, .int .u8 0, .int .u8 0, .int .u8 0, .int .u8 0, .int .u8 0, .int .u8 0, .int .u8 0, .int .u8 0, .int .u8 0, .int .u8 0, .int .u8 0, .int .u8 0, .int .u8 0, .int .u8 0, .int .u8 0, .int .u8 0, .int .u8 0, .int .u8 0, .int .u8 0, .int .u8 0, .int .u8 0, .int .u8 0, .int .u8 0, .int .u8 0, .int .u8 0, .int .u8 0, .int .u8 0, .int .u8 0, .int .u8 0, .int .u8 0] := rfl
theorem SPrint_ok (s : St) (hs : s.Ok) (w : World) : Calls Tryz.prog 107 #[.agg (arr s.l)] w fun e w' => e = .returned (.agg (tagA s.print)) ∧ Chg Non w w' := by
 have hz := zeroT s
 have HOk := Lh hs
 have HIdx := Lh (sidx s)
 have HStep := Lh (pL_step s)
 have HGet : Hid (∀ k, k < 8 → ∃ x, s.l[k]? = some x ∧ x < 4294967296) := Lh (fun k hk => ⟨_, List.getElem?_eq_getElem (show k < 8 from hk), St.l_lt hs (List.getElem?_eq_getElem (show k < 8 from hk))⟩)
 have HLen := Lh (pL_len s)
 have HAll : Hid (((pL s 8).map bv).toArray = tagA s.print) := Lh (by rw [pL_all]; rfl)
 obtain ⟨S0, hS0⟩ : ∃ S0, arr s.l = S0 := ⟨_, rfl⟩
 have HS0 := Lh hS0
 have HS0s : Hid (S0.size = 8) := Lh (by rw [← hS0, arr_size]; rfl)
 rw [hS0] at HIdx ⊢
 obtain ⟨Z, hZ⟩ : ∃ Z, ((pL s 0).map bv).toArray = Z := ⟨_, rfl⟩
 have HZ := Lh hZ
 rw [hZ] at hz
 clear hS0 hZ hs
 go_enter Tryz.func107, Tryz.ntmps107
 go_wp2_with (first
   | rw [← hz]
   | (refine sel (some 6) (.load 162 (.tmp 1)) ?_; refine wpList_load_row rfl 162 (.tmp 1) rfl w.heap.size rfl 162 S0 (0, 0) _ (al_3_0 w (.cells S0 162) (.cells Z 23) (.cells Z 23)) Tryz.underlying162 rfl (by rw [HS0s.out]; kernel_rfl) ?_))
 obtain ⟨b1, hb1⟩ : ∃ x, w.heap.size = x := ⟨_, rfl⟩
 have q0 := al_3_0 w (.cells S0 162) (.cells Z 23) (.cells Z 23)
 have q1 := al_3_1 w (.cells S0 162) (.cells Z 23) (.cells Z 23)
 have q2 := al_3_2 w (.cells S0 162) (.cells Z 23) (.cells Z 23)
 have hgW : Chg Non w (((w.alloc (.cells S0 162)).alloc (.cells Z 23)).alloc (.cells Z 23)) := (((Chg.refl Non w).alloc _).alloc _).alloc _
 have hsz : (((w.alloc (.cells S0 162)).alloc (.cells Z 23)).alloc (.cells Z 23)).heap.size = b1 + 3 := by rw [← hb1]; simp
 obtain ⟨W0, hW0⟩ : ∃ V, ((w.alloc (.cells S0 162)).alloc (.cells Z 23)).alloc (.cells Z 23) = V := ⟨_, rfl⟩
 rw [hb1] at q0 q1 q2
 rw [hW0] at q0 q1 q2 hgW hsz ⊢
 rw [hb1]
 have HQ0 := Lh q0
 have HQ1 := Lh q1
 have HQ2 := Lh q2
 have HGW := Lh hgW
 have HB1 := Lh hb1
 have HZs : Hid (Z.size = 32) := Lh (by rw [← HZ.out]; simp [HLen.out 0 (by omega)])
 clear hW0 q0 q1 q2 hgW hb1 hz
 go_loopw [7] (fun iv wr => ∃ k : Nat, k ≤ 8 ∧ iv = .int .i64 k ∧ Hid (wr.heap[b1 + 1 + 1]? = some (.cells ((pL s k).map bv).toArray 23 (0, 0))) ∧ Hid (Chg (fun k => k = b1 + 1 + 1) W0 wr)) (fun iv _ => 8 - (intOf iv).toNat)
 case atStart => exact ⟨0, Nat.zero_le _, rfl, by rw [HZ.out]; exact HQ2, Lh (Chg.refl _ _)⟩
 case round =>
  obtain ⟨k, hk, rfl, HB, HG⟩ := hrel
  by_cases hlt : k < 8
  ·obtain ⟨x, hx, bx⟩ := HGet.out k hlt
   have hix := HIdx.out k x hlt hx
   have HSt := Lh (HStep.out k x hlt hx)
   have hkI : (k : Int) < 8 := by omega
   clear hx
   go_wp2_with fail
   obtain ⟨V, hV⟩ : ∃ V, V = wr.drew := ⟨_, rfl⟩
   have HBV : Hid (V.heap[b1 + 1 + 1]? = some (.cells ((pL s k).map bv).toArray 23 (0, 0))) := Lh (by rw [hV]; exact HB.out)
   have HGV : Hid (Chg (fun k => k = b1 + 1 + 1) W0 V) := Lh (by rw [hV]; exact HG.out.drew)
   have hl := HLen.out k hk
   refine wp_region_held_drew (S := Chg (fun k => k = b1 + 1 + 1) V) (by kernel_rfl) (by rw [hV]; exact Chg.refl _ _) (fun hHeld => ?_)
   clear hHeld
   rw [← hV]
   clear hV
   have HS : Hid (Chg (fun k => k = b1 + 1 + 1) V V) := Lh (Chg.refl _ _)
   have w4 := Go.IntWalk.i64_in (4 * (k : Int)) (by omega)
   have hk4 : (4 * (k : Int)).toNat = 4 * k := by omega
   have h1 := tagSl k hlt (b1 + 1 + 1)
   refine hp 0 11 (.int .i64 k) rfl HS.out ?_
   refine hp 1 12 (.int .i64 (4 * (k : Int))) rfl HS.out ?_
   refine hp 2 13 (.slice (some ⟨b1 + 1 + 1, 4 * k, none⟩) (32 - 4 * k) (32 - 4 * k)) rfl HS.out ?_ (he := fun W hW => by go_simp)
   refine hp 3 14 (.int .u32 x) rfl HS.out ?_
   have HP32 := Lh (Put32 x V bx)
   clear h1 w4 hk4
   refine h1o 4 rfl ?_
   intro K hK
   go_simp
   refine HP32.out.mono ?_
   rintro e u ⟨A5, c5, rfl, p1, p2, p3, p4⟩
   rw [be_length] at p1 ⊢
   have HBu := Lh (blk_keep HBV.out p4 (fun e => e))
   have HM := Lh p3
   have HSu : Hid (Chg (fun k => k = b1 + 1 + 1) V u) := Lh (Chg.of_non p4)
   refine hK.out _ _ HSu.out (fun _ => ?_)
   clear hK K p3 p4
   try simp only [Act.put, sA, sB, sC]
   obtain ⟨bl, off, rfl, _, hat⟩ := HM.out.rd.at_ (by rw [be_length]; omega)
   refine h1o 5 rfl ?_
   intro K hK
   have hmin : Nat.min 4 (32 - 4 * k) = 4 := Nat.min_eq_left (by omega)
   refine wp_copy_row (.tmp 13) (.tmp 15) 32 32 5 rfl Tryz.underlying32 (by kernel_rfl) (b1 + 1 + 1) (4 * k) (32 - 4 * k) (32 - 4 * k) ⟨bl, off, none⟩ 4 c5 ((pL s k).map bv).toArray 23 ((be x 4).map bv) rfl rfl HBu.out ?_ ?_ ?_ (bv_one _) ?_
   ·rw [List.length_map, be_length, hmin]
   ·intro j v hv
    rw [List.getElem?_map] at hv
    obtain ⟨y, hy, rfl⟩ := Option.map_eq_some_iff.1 hv
    obtain ⟨hj, rfl⟩ := List.getElem?_eq_some_iff.1 hy
    rw [addr_none]
    exact hat j hj
   ·rw [List.length_map, be_length, List.size_toArray, List.length_map, hl]
    omega
   intro u9 hg9 hb9
   have HB9 : Hid (u9.heap[b1 + 1 + 1]? = some (.cells ((pL s (k + 1)).map bv).toArray 23 (0, 0))) := Lh (by
     rw [List.length_map, be_length, List.toList_toArray, HSt.out] at hb9
     exact hb9)
   have HS9 := Lh (HSu.out.trans_same hg9)
   refine hK.out _ _ HS9.out (fun _ => ?_)
   clear hK K hb9 hg9 hmin
   try simp only [Act.put, sA, sB, sC]
   refine hdn ?_ _
   have HG9 := Lh (HGV.out.trans_same HS9.out)
   clear hat hl hkI hix
   go_wp2
   go_roundw
   case rel => exact ⟨k + 1, by omega, by go_num, HB9, HG9⟩
   case measure => simp [intOf]; omega
  ·obtain rfl : k = 8 := by omega
   have HBF : Hid (wr.heap[b1 + 1 + 1]? = some (.cells (tagA s.print) 23 (0, 0))) := Lh (by rw [← HAll.out]; exact HB.out)
   have HB0' := Lh (blk_keep HQ1.out HG.out (fun e => by have e : b1 + 1 = b1 + 1 + 1 := e; omega))
   have HRs := Lh (tagA_size s.print (St.print_length s))
   go_wp2_with (first
     | (refine sel (some 18) (.load 23 (.tmp 3)) ?_; refine wpList_load_row rfl 23 (.tmp 3) rfl (b1 + 1 + 1) rfl 23 (tagA s.print) (0, 0) _ HBF.out Tryz.underlying23 rfl (by rw [HRs.out]; exact info_tagS) ?_)
     | (refine sel none (.store 23 (.tmp 2) (.tmp 18)) ?_
        refine wpList_store_rowA rfl 23 (.tmp 2) (.tmp 18) rfl (b1 + 1) (tagA s.print) rfl rfl 23 _ HB0'.out (by rw [HRs.out]; exact info_tagS) (HZs.out.trans HRs.out.symm) (tagA_one _) ?_
        intro W1 hgW1 hbW1))
   refine bodyPost_ret (results_cell_row Tryz.results107 _ _ (b1 + 1) 23 (tagA s.print) (0, 0) _ rfl hbW1 Tryz.underlying23 rfl (by rw [HRs.out]; exact info_tagS)) rfl ⟨rfl, ?_⟩
   have hb1' := HB1.out
   exact (HGW.out.then_new HG.out (fun x e => by have e : x = b1 + 1 + 1 := e; omega)).then_new hgW1 (fun x e => by have e : x = b1 + 1 := e; omega)
end
end Go.Proofs.YtajkajgifigmbaaGreat
