/- CheckPlays, part 23 of 27: contracts of the functions that it reaches, and the laws that they need, merged and shortened (from my texts XR25g). -/
import Derived.Test.YtkgnlobabknkcaaGreatMgCheckPlaysA
import Derived.Test.YtkgnlobabknkcaaGreatMgCheckPlaysI
import Derived.Test.YtkgnlobabknkcaaGreatMgCheckPlaysK
import Derived.Test.YtkgnlobabknkcaaGreatMgCheckPlaysV
namespace Go.Proofs.YtkgnlobabknkcaaGreat
set_option linter.unusedVariables false
set_option linter.unusedSimpArgs false
set_option maxHeartbeats 8000000
set_option maxRecDepth 100000
section
open Go.RowKit
def rkAllN (E : Rk) (p n : Nat) : List UInt8 := (List.range n).flatMap fun k => rkAt E (132 + 96 * p + k)
theorem rkAllN_succ (E : Rk) (p n : Nat) : rkAllN E p (n + 1) = rkAllN E p n ++ rkAt E (132 + 96 * p + n) := by
 unfold rkAllN
 rw [List.range_succ, List.flatMap_append]
 simp
def rKAt (E : Rk) (p : Nat) : Option (Int × List UInt8 × Sta) :=
 let t := tiRd (rkAt E (131 + 96 * p))
 if t.2 = true ∧ t.1.n % 2 = (p : Int) ∧ crcSum ((rkAllN E p 95).take t.1.size.toNat) = t.1.sum then (parseS ((rkAllN E p 95).take t.1.size.toNat)).map fun s => (t.1.n, t.1.hash, s) else none
def rKGet (E : Rk) : Option (Int × List UInt8 × Sta) := kMax (if 0 < kNum (rKAt E 0) then rKAt E 0 else none) (rKAt E 1)
theorem rKAt_twin {n : Nat} {D : Dk} {E : Rk} (tw : Twin n D E) (hn : 323 ≤ n) {p : Nat} (hp : p < 2) : rKAt E p = kAt D p := by
 have h : ∀ i, i < 323 → rkAt E i = D.at_ i := fun i hi => ((at_rk tw.same (by rw [tw.len]; omega)).1).symm
 have ha : rkAllN E p 95 = kAll D p := by
  unfold rkAllN kAll
  have hq : ∀ l : List Nat, (∀ k ∈ l, k < 95) → l.flatMap (fun k => rkAt E (132 + 96 * p + k)) = l.flatMap (fun k => D.at_ (132 + 96 * p + k)) := by
   intro l
   induction l with
   | nil => intro _; rfl
   | cons a l ih =>
    intro hl
    rw [List.flatMap_cons, List.flatMap_cons, ih (fun k hk => hl k (List.mem_cons_of_mem _ hk)), h _ (by have := hl a (List.mem_cons_self ..); omega)]
  exact hq _ (fun k hk => by rwa [List.mem_range] at hk)
 unfold rKAt kAt
 rw [h _ (by omega), ha]
theorem rKGet_twin {n : Nat} {D : Dk} {E : Rk} (tw : Twin n D E) (hn : 323 ≤ n) : rKGet E = kGet D := by
 unfold rKGet kGet
 rw [rKAt_twin tw hn (by omega), rKAt_twin tw hn (by omega)]
theorem rkAt_len {B p q : Nat} {w : World} {E : Rk} (h : IsRk B p q w E) {i : Nat} (hi : i < E.l.length) : (rkAt E i).length = 64 := by
 obtain ⟨⟨f, c⟩, hfc⟩ : ∃ x, E.l[i]? = some x := ⟨_, List.getElem?_eq_getElem hi⟩
 obtain ⟨⟨v1, _, s1⟩, ⟨v2, _, s2⟩⟩ := h.row hfc
 rw [rkAt_some hfc]
 cases c with
 | none => exact s1.choose_spec.choose_spec.choose_spec.2.2.2.2
 | some x => exact s2.choose_spec.choose_spec.choose_spec.2.2.2.2
theorem rRead_at (B p q : Nat) (E : Rk) (i : Nat) (w : World) (h : IsRk B p q w E) (hd : E.down = false) (hi : i < E.l.length) :
  Calls Tryz.prog 18 #[.pointer (some ⟨p, 0, none⟩), .int .i64 (i : Int)] w fun e w' => ∃ A k, e = .returned (.tuple #[.slice A 64 k, .int .i64 0]) ∧ 64 ≤ k ∧ k ≤ maxLen ∧ Own w.heap.size w' A (rkAt E i) ∧ Chg Non w w' := by
 obtain ⟨⟨f, c⟩, hfc⟩ : ∃ x, E.l[i]? = some x := ⟨_, List.getElem?_eq_getElem hi⟩
 refine (rRead_ok B p q E i f c w h hd hfc).mono ?_
 rintro e w' ⟨A, k, rfl, h1, h2, _, h3, h4⟩
 exact ⟨A, k, rfl, h1, h2, by rw [rkAt_some hfc]; exact h3, h4⟩
theorem res_tcct {P : Program} {fn : Func} {p p2 q q2 : Tmp} {ty ty2 : TypeId} (h : fn.results = #[.tmp q, .cell p ty, .cell p2 ty2, .tmp q2]) (tmps : Array Value) (w : World) (g g2 : Nat) (t t2 : TypeId) (cs cs2 : Array Value) (fr fr2 : Nat × Nat) (d d2 : TypeDesc) (v v2 : Value)
  (hp : tmps.getD p undef = .pointer (some ⟨g, 0, none⟩)) (hp2 : tmps.getD p2 undef = .pointer (some ⟨g2, 0, none⟩)) (hv : tmps.getD q undef = v) (hv2 : tmps.getD q2 undef = v2) (hg : w.heap[g]? = some (.cells cs t fr)) (hg2 : w.heap[g2]? = some (.cells cs2 t2 fr2))
  (hu : P.underlying ty = some d) (hd : (match d with | .struct _ | .array _ _ => true | _ => false) = true) (hi : (P.info? ty).map (·.size) = some cs.size)
  (hu2 : P.underlying ty2 = some d2) (hd2 : (match d2 with | .struct _ | .array _ _ => true | _ => false) = true) (hi2 : (P.info? ty2).map (·.size) = some cs2.size) :
  (results fn tmps).run P w = .ok (.tuple #[v, .agg cs, .agg cs2, v2]) w := by
 have hp' : tmps[p]?.getD undef = .pointer (some ⟨g, 0, none⟩) := by simpa using hp
 have hp2' : tmps[p2]?.getD undef = .pointer (some ⟨g2, 0, none⟩) := by simpa using hp2
 have hv' : tmps[q]?.getD undef = v := by simpa using hv
 have hv2' : tmps[q2]?.getD undef = v2 := by simpa using hv2
 simp [results, h, hp', hp2', hv', hv2', asAddr, run_loadVar_row w g t ty cs fr d hg hu hd hi, run_loadVar_row w g2 t2 ty2 cs2 fr2 d2 hg2 hu2 hd2 hi2]
theorem zTag_size : (tagA zTag).size = 32 := by kernel_rfl
theorem zTag_one : (tagA zTag).all (·.oneCell') = true := by kernel_rfl
def One25 (r : Option (Int × List UInt8 × Sta)) (er : Int) (w : World) (e : Ending) (w' : World) : Prop :=
 ((r = none ∧ e = .returned (.tuple #[.int .i64 0, .agg (tagA zTag), .agg zStC, .int .i64 er])) ∨
 (∃ n hash s b d, r = some (n, hash, s) ∧ hash.length = 32 ∧ 1 ≤ n ∧ n ≤ 9223372036854775807 ∧ e = .returned (.tuple #[.int .i64 n, .agg (tagA hash), .agg #[.int .i64 s.frames, b, d], .int .i64 0]) ∧ StaV (From w.heap.size) w' s b d)) ∧ Chg Non w w'
theorem r25one_down (B p q : Nat) (E : Rk) (odd : Nat) (w : World) (h : IsRk B p q w E) (hd : E.down = true) (ho : odd < 2) :
  Calls Tryz.prog 49 #[.pointer (some ⟨p, 0, none⟩), .int .i64 (odd : Nat)] w fun e w' => e = .returned (.tuple #[.int .i64 0, .agg (tagA zTag), .agg zStC, .int .i64 60]) ∧ Chg Non w w' := by
 have htm : (odd : Int).tmod 2 = (odd : Int) := by rw [Int.tmod_eq_emod_of_nonneg (by omega)]; omega
 have HAt := Lh (fun W => r25at (odd : Nat) odd W htm ho)
 have HRd := Lh (fun W (hg : Chg Non w W) => rRead_down B p q E ((131 + 96 * odd : Nat) : Int) W (h.non hg) hd)
 clear h hd htm
 go_enter Tryz.func49, Tryz.ntmps49
 go_wp2_with fail
 refine (HAt.out _).mono ?_
 rintro e V0 ⟨rfl, hu⟩
 have hV0 : ((w.alloc (.cells (tagA zTag) 28)).alloc (.cells zStC 25)).alloc (.cells (tagA zTag) 28) = V0 := hu
 have hgV : Chg Non w V0 := by rw [← hV0]; exact (((Chg.refl Non w).alloc _).alloc _).alloc _
 have hk5 : V0.heap[w.heap.size]? = some (.cells (tagA zTag) 28 (0, 0)) := by rw [← hV0]; exact blk_keep (blk_new w _) (((Chg.refl Non _).alloc _).alloc _) (fun e => e)
 have hk6 : V0.heap[w.heap.size + 1]? = some (.cells zStC 25 (0, 0)) := by
  have h := blk_keep (blk_new (w.alloc (.cells (tagA zTag) 28)) (.cells zStC 25)) ((Chg.refl Non _).alloc (.cells (tagA zTag) 28)) (fun e => e)
  rw [hV0, show (w.alloc (.cells (tagA zTag) 28)).heap.size = w.heap.size + 1 by simp] at h
  exact h
 have hk8 : V0.heap[w.heap.size + 2]? = some (.cells (tagA zTag) 28 (0, 0)) := by
  have h := blk_new ((w.alloc (.cells (tagA zTag) 28)).alloc (.cells zStC 25)) (.cells (tagA zTag) 28)
  rw [hV0, show ((w.alloc (.cells (tagA zTag) 28)).alloc (.cells zStC 25)).heap.size = w.heap.size + 2 by simp] at h
  exact h
 clear hu hV0
 obtain ⟨b5, hb5⟩ : ∃ b, w.heap.size = b := ⟨_, rfl⟩
 try rw [show w.heap.size + 1 + 1 = w.heap.size + 2 from rfl]
 rw [hb5] at hk5 hk6 hk8 ⊢
 have HB5 := Lh hb5
 have HG := Lh hgV
 have HK5 := Lh hk5
 have HK6 := Lh hk6
 have HK8 := Lh hk8
 have hlw := blk_lt hk8
 clear hgV hk5 hk6 hk8 hb5
 go_wp2_with fail
 refine (HRd.out _ HG.out).mono ?_
 rintro e u ⟨rfl, rfl⟩
 go_wp2_with fail
 obtain ⟨V, hV⟩ : ∃ V, V = V0.drew := ⟨_, rfl⟩
 have hnV : Chg Non V0 V := by rw [hV]; exact (Chg.refl Non _).drew
 have HGV := Lh (HG.out.then_non hnV)
 have HV5 := Lh (blk_keep HK5.out hnV (fun e => e))
 have HV6 := Lh (blk_keep HK6.out hnV (fun e => e))
 have HV8 := Lh (range_block (blk_keep HK8.out hnV (fun e => e)))
 refine wp_region_held_drew (S := Chg (fun x => x = b5 ∨ x = b5 + 1) V) (by kernel_rfl) (by rw [hV]; exact Chg.refl _ _) (fun hHeld => ?_)
 clear hHeld
 rw [← hV]
 clear hV hnV
 have HS0 : Hid (Chg (fun x => x = b5 ∨ x = b5 + 1) V V) := Lh (Chg.refl _ _)
 refine h_load 0 (some 32) 28 (.tmp 8) (b5 + 2) 0 (tagA zTag) _ rfl (by kernel_rfl) (by kernel_rfl) (by kernel_rfl) (by kernel_rfl) (by kernel_rfl) (fun _ _ _ h => h) (by kernel_rfl) (by kernel_rfl) (fun W h => range_keepS HV8.out h (fun e => by rcases e with e | e <;> omega)) Tryz.underlying28 (by kernel_rfl) (by kernel_rfl) HS0.out ?_
 try simp only [Act.put, sA, sB, sC]
 refine hp 1 33 (.agg zStC) rfl HS0.out ?_ (he := fun W hW => by kernel_rfl)
 refine hp 2 34 (.int .i64 60) rfl HS0.out ?_
 refine hp 3 4 (.int .i64 0) rfl HS0.out ?_
 refine h_store 4 28 (.tmp 5) (.tmp 32) b5 (tagA zTag) (by kernel_rfl) rfl (by kernel_rfl) rfl rfl rfl rfl 28 ⟨_, HV5.out, rfl⟩ (by kernel_rfl) zTag_one (fun W h _ => h.mono (fun x e => .inl e)) ?_
 intro W8 hgW8 hbW8
 have hz6 := blk_keep HV6.out hgW8 (fun e => by have e : b5 + 1 = b5 := e; omega)
 try simp only [Act.put, sA, sB, sC]
 refine h_store 5 25 (.tmp 6) (.tmp 33) (b5 + 1) zStC (by kernel_rfl) rfl (by kernel_rfl) rfl rfl rfl rfl 25 ⟨_, hz6, rfl⟩ (by kernel_rfl) (by kernel_rfl) (fun W h _ => (hgW8.mono (fun x e => .inl e)).trans_same (h.mono (fun x e => .inr e))) ?_
 intro W9 hgW9 hbW9
 have hz5 := blk_keep hbW8 hgW9 (fun e => by have e : b5 = b5 + 1 := e; omega)
 try simp only [Act.put, sA, sB, sC]
 refine hp 6 7 (.int .i64 60) rfl ((hgW8.mono (fun x e => .inl e)).trans_same (hgW9.mono (fun x e => .inr e))) ?_
 refine hdn ?_ _
 go_wp2_with fail
 refine bodyPost_ret (res_tcct Tryz.results49 _ _ b5 (b5 + 1) 28 25 _ _ (0, 0) (0, 0) _ _ (.int .i64 0) (.int .i64 60) rfl rfl rfl rfl hz5 hbW9 Tryz.underlying28 rfl (by kernel_rfl) Tryz.underlying25 rfl (by kernel_rfl)) rfl ?_
 exact ⟨rfl, ((HGV.out.then_new hgW8 (fun x e => by have e : x = b5 := e; have := HB5.out; omega)).then_new hgW9 (fun x e => by have e : x = b5 + 1 := e; have := HB5.out; omega))⟩
theorem rkAllN_len {E : Rk} {p : Nat} (hp : p < 2) (h : ∀ i, i < 323 → (rkAt E i).length = 64) : ∀ n, n ≤ 95 → (rkAllN E p n).length = 64 * n
 | 0, _ => rfl
 | n + 1, hn => by
  rw [rkAllN_succ, List.length_append, rkAllN_len hp h n (by omega), h _ (by omega)]
  omega
theorem rKAt_no {E : Rk} {p : Nat} (h : openL 3 (rkAt E (131 + 96 * p)) = none) : rKAt E p = none := by
 unfold rKAt tiRd
 rw [h]
 simp
theorem rKAt_eq {E : Rk} {p : Nat} {m x3 l4 : List UInt8} {x1 x2 x4 e4 : Int} (h : openL 3 (rkAt E (131 + 96 * p)) = some m) (hq : tiFields m = (x1, x2, x3, x4, l4, e4)) :
  rKAt E p = if (e4 = 0 ∧ l4 = []) ∧ 1 ≤ x1 ∧ x1 % 2 = (p : Int) ∧ 1 ≤ x2 ∧ x2 ≤ 6080 ∧ x4 = (crcSum ((rkAllN E p 95).take x2.toNat) : Int) then (parseS ((rkAllN E p 95).take x2.toNat)).map fun s => (x1, x3, s) else none := by
 have hlt := crcSum_lt ((rkAllN E p 95).take x2.toNat)
 unfold rKAt tiRd
 simp only [h, Option.getD_some, hq, Option.isSome_some, Bool.true_and, Bool.and_eq_true, decide_eq_true_eq]
 have hs : ((sum32 x4 : Nat) : Int) = x4 % 4294967296 := by unfold sum32; omega
 by_cases hc : (e4 = 0 ∧ l4 = []) ∧ 1 ≤ x1 ∧ x1 % 2 = (p : Int) ∧ 1 ≤ x2 ∧ x2 ≤ 6080 ∧ x4 = (crcSum ((rkAllN E p 95).take x2.toNat) : Int)
 ·rw [if_pos hc, if_pos]
  obtain ⟨h1, h2, h3, h4, h5, h6⟩ := hc
  exact ⟨⟨⟨⟨⟨h1, by omega⟩, h2⟩, h4⟩, h5⟩, h3, by omega⟩
 ·rw [if_neg hc, if_neg]
  rintro ⟨⟨⟨⟨⟨h1, h2⟩, h3⟩, h4⟩, h5⟩, h6, h7⟩
  exact hc ⟨h1, h3, h6, h4, h5, by omega⟩
theorem openL_le {k : UInt8} {s m : List UInt8} (h : openL k s = some m) : m.length ≤ s.length := by
 unfold openL at h
 split at h
 ·injection h with h
  rw [← h]
  simp only [List.length_take, List.length_drop]
  omega
 ·cases h
theorem r25one_up (B p q : Nat) (E : Rk) (odd : Nat) (w : World) (h : IsRk B p q w E) (hd : E.down = false) (hl : E.l.length = 323) (ho : odd < 2) :
  Calls Tryz.prog 49 #[.pointer (some ⟨p, 0, none⟩), .int .i64 (odd : Nat)] w (One25 (rKAt E odd) 0 w) := by
 have htm : (odd : Int).tmod 2 = (odd : Int) := by rw [Int.tmod_eq_emod_of_nonneg (by omega)]; omega
 have HAt := Lh (fun W => r25at (odd : Nat) odd W htm ho)
 have HRd := Lh (fun (i : Nat) (hi : i < 323) W (hg : Chg Non w W) => rRead_at B p q E i W (h.non hg) hd (by omega))
 have h64 : ∀ i, i < 323 → (rkAt E i).length = 64 := fun i hi => rkAt_len h (by omega)
 have HAll := Lh (rkAllN_len ho h64)
 have H64 := Lh h64
 clear h hd htm hl h64
 have hw3 : IntKind.i64.wrap (131 + 96 * (odd : Int) + 1) = 132 + 96 * (odd : Int) := by rw [Go.IntWalk.i64_in _ (by omega)]; omega
 go_enter Tryz.func49, Tryz.ntmps49
 go_wp2_with fail
 refine (HAt.out _).mono ?_
 rintro e V0 ⟨rfl, hu⟩
 have hV0 : ((w.alloc (.cells (tagA zTag) 28)).alloc (.cells zStC 25)).alloc (.cells (tagA zTag) 28) = V0 := hu
 have hgV : Chg Non w V0 := by rw [← hV0]; exact (((Chg.refl Non w).alloc _).alloc _).alloc _
 have hk5 : V0.heap[w.heap.size]? = some (.cells (tagA zTag) 28 (0, 0)) := by rw [← hV0]; exact blk_keep (blk_new w _) (((Chg.refl Non _).alloc _).alloc _) (fun e => e)
 have hk6 : V0.heap[w.heap.size + 1]? = some (.cells zStC 25 (0, 0)) := by
  have h := blk_keep (blk_new (w.alloc (.cells (tagA zTag) 28)) (.cells zStC 25)) ((Chg.refl Non _).alloc (.cells (tagA zTag) 28)) (fun e => e)
  rw [hV0, show (w.alloc (.cells (tagA zTag) 28)).heap.size = w.heap.size + 1 by simp] at h
  exact h
 have hk8 : V0.heap[w.heap.size + 2]? = some (.cells (tagA zTag) 28 (0, 0)) := by
  have h := blk_new ((w.alloc (.cells (tagA zTag) 28)).alloc (.cells zStC 25)) (.cells (tagA zTag) 28)
  rw [hV0, show ((w.alloc (.cells (tagA zTag) 28)).alloc (.cells zStC 25)).heap.size = w.heap.size + 2 by simp] at h
  exact h
 clear hu hV0
 obtain ⟨b5, hb5⟩ : ∃ b, w.heap.size = b := ⟨_, rfl⟩
 try rw [show w.heap.size + 1 + 1 = w.heap.size + 2 from rfl]
 rw [hb5] at hk5 hk6 hk8 ⊢
 have HB5 := Lh hb5
 have HG := Lh hgV
 have HK5 := Lh hk5
 have HK6 := Lh hk6
 have HK8 := Lh hk8
 have hlw := blk_lt hk8
 clear hgV hk5 hk6 hk8 hb5
 go_wp2_with fail
 refine (HRd.out (131 + 96 * odd) (by omega) _ HG.out).mono ?_
 rintro e u1 ⟨A9, c9, rfl, hc9, hm9, ho9, hg9⟩
 replace HG := Lh (HG.out.then_non hg9)
 replace HK5 := Lh (blk_keep HK5.out hg9 (fun e => e))
 replace HK6 := Lh (blk_keep HK6.out hg9 (fun e => e))
 replace HK8 := Lh (blk_keep HK8.out hg9 (fun e => e))
 have HS9 := Lh (And.intro ho9.rd (And.intro hc9 hm9))
 replace hlw : b5 + 2 < u1.heap.size := blk_lt HK8.out
 clear hc9 hm9 ho9 hg9
 go_wp2_with fail
 go_loopw [11, 12] (fun v iv wr => ∃ k : Nat, k ≤ 95 ∧ iv = .int .i64 k ∧ Hid (OwnB u1.heap.size wr v (rkAllN E odd k)) ∧ Hid (Chg Non u1 wr)) (fun _ iv _ => 95 - (intOf iv).toNat)
 case atStart => exact ⟨0, by omega, rfl, Lh (OwnB.nil _ _), Lh (Chg.refl _ _)⟩
 case round =>
  obtain ⟨k, hk, rfl, HO, HC⟩ := hrel
  obtain ⟨wo, hwo⟩ : ∃ W, W = wr := ⟨_, rfl⟩
  subst hwo
  by_cases hlt : k < 95
  ·have hltd : decide ((k : Int) < 95) = true := by rw [decide_eq_true_eq]; omega
   have hw4 : IntKind.i64.wrap (132 + 96 * (odd : Int) + (k : Int)) = 132 + 96 * (odd : Int) + (k : Int) := Go.IntWalk.i64_in _ (by omega)
   have hRk := HRd.out (132 + 96 * odd + k) (by omega) wo (HG.out.then_non HC.out)
   rw [show ((132 + 96 * odd + k : Nat) : Int) = 132 + 96 * (odd : Int) + (k : Int) by omega] at hRk
   have HRk := Lh hRk
   have HSu := Lh (rkAllN_succ E odd k)
   have hkl := HAll.out k hk
   have HKl := Lh hkl
   have H6 := Lh (H64.out (132 + 96 * odd + k) (by omega))
   obtain ⟨al, hal⟩ : ∃ x, rkAllN E odd k = x := ⟨_, rfl⟩
   obtain ⟨bl, hbl⟩ : ∃ x, rkAt E (132 + 96 * odd + k) = x := ⟨_, rfl⟩
   rw [hal] at HO HSu HKl
   rw [hbl] at HSu H6 HRk
   clear hRk hal hbl hkl
   go_wp2_with fail
   refine (HAt.out _).mono ?_
   rintro e u ⟨rfl, rfl⟩
   go_wp2_with fail
   refine HRk.out.mono ?_
   rintro e u2 ⟨A2, c2, rfl, hc2, hm2, ho2, hg2⟩
   have HO2 := Lh (HO.out.non hg2)
   have HC2 := Lh (HC.out.then_non hg2)
   have HR2 := Lh ho2.rd
   clear hc2 hm2 ho2 hg2
   go_wp2_with (first
     | (refine sel (some 56) (.call { callee := .builtin .append, args := #[.tmp 54, .tmp 55], argTypes := #[29, 29] }) ?_
        refine Hole1.out ?_))
   refine ⟨?_⟩
   have hbx := H6.out
   refine wpList_bytes rfl (.tmp 54) (.tmp 55) rfl u1.heap.size u11 al rfl HO2.out A2 bl c2 (by rw [hbx]; rfl) HR2.out (fun e => by rw [e] at hbx; cases hbx) (by rw [HKl.out]; omega) (by omega) HC2.out.size ?_
   intro v4 u4 ho4 hg4
   rw [← HSu.out] at ho4
   have HO4 := Lh ho4
   have HC4 := Lh (HC2.out.then_new hg4 (fun x e => e))
   clear ho4 hg4 hbx
   go_wp2_with fail
   exact ⟨⟨k + 1, by omega, by simp, HO4, HC4⟩, by simp [intOf]; omega⟩
  ·obtain rfl : k = 95 := by omega
   have hltd : decide (((95 : Nat) : Int) < 95) = false := by decide
   have hkl := HAll.out 95 (Nat.le_refl _)
   obtain ⟨A1, c1, rfl, hc1, hm1, ho1⟩ := HO.out.slice
   rw [hkl] at hc1 ⊢
   have HAl := Lh ho1.rd
   obtain ⟨g1, o1, rfl, hg1, _⟩ := ho1.rd.at_ (by rw [hkl]; omega)
   have HGe0 := Lh (show b5 + 2 < g1 from Nat.lt_of_lt_of_le hlw (ho1.ge (fun e => by rw [e] at hkl; cases hkl)))
   have HKl := Lh hkl
   have HE0 := Lh (fun m x1 x2 x3 x4 l4 e4 h hq => rKAt_eq (E := E) (p := odd) (m := m) (x1 := x1) (x2 := x2) (x3 := x3) (x4 := x4) (l4 := l4) (e4 := e4) h hq)
   obtain ⟨al, hal⟩ : ∃ x, rkAllN E odd 95 = x := ⟨_, rfl⟩
   simp only [hal] at HE0
   rw [hal] at HAl HKl
   have HS := Lh (HS9.out.1.non HC.out)
   have HOp := Lh (rOpen 3 A9 (rkAt E (131 + 96 * odd)) c9 wo HS.out (H64.out _ (by omega)) HS9.out.2.1 HS9.out.2.2)
   have HNo0 := Lh (rKAt_no (E := E) (p := odd))
   have h6s := H64.out (131 + 96 * odd) (by omega)
   obtain ⟨sc, hsc⟩ : ∃ x, rkAt E (131 + 96 * odd) = x := ⟨_, rfl⟩
   simp only [hsc] at HOp HNo0 HE0 h6s
   replace HG := Lh (HG.out.then_non HC.out)
   replace HK5 := Lh (blk_keep HK5.out HC.out (fun e => e))
   replace HK6 := Lh (blk_keep HK6.out HC.out (fun e => e))
   replace HK8 := Lh (blk_keep HK8.out HC.out (fun e => e))
   clear hkl ho1 hal HO HC hsc HS HAll H64 HRd HS9 hw3 hlw
   have hlw := blk_lt HK8.out
   have hc1' : 6080 ≤ c1 := by omega
   go_wp2_with fail
   refine HOp.out.mono ?_
   rintro e u2 ⟨hcase, hg2⟩
   replace HG := Lh (HG.out.then_non hg2)
   replace HK5 := Lh (blk_keep HK5.out hg2 (fun e => e))
   replace HK6 := Lh (blk_keep HK6.out hg2 (fun e => e))
   replace HK8 := Lh (blk_keep HK8.out hg2 (fun e => e))
   replace HAl := Lh (HAl.out.non hg2)
   have hlw := blk_lt HK8.out
   have hg1u : g1 < u2.heap.size := Nat.lt_of_lt_of_le hg1 hg2.size
   have HGe := Lh (show b5 + 2 < g1 from HGe0.out)
   clear hg2
   rcases hcase with ⟨Am, cm, m, hom, rfl, hmc, hmm, hmo⟩ | ⟨hom, rfl⟩
   case inr =>
    have HNo := Lh (HNo0.out hom)
    clear hom
    go_wp2_with fail
    obtain ⟨V, hV⟩ : ∃ V, V = u2.drew := ⟨_, rfl⟩
    have hnV : Chg Non u2 V := by rw [hV]; exact (Chg.refl Non _).drew
    have HGV := Lh (HG.out.then_non hnV)
    have HV5 := Lh (blk_keep HK5.out hnV (fun e => e))
    have HV6 := Lh (blk_keep HK6.out hnV (fun e => e))
    have HV8 := Lh (range_block (blk_keep HK8.out hnV (fun e => e)))
    refine wp_region_held_drew (S := Chg (fun x => x = b5 ∨ x = b5 + 1) V) (by kernel_rfl) (by rw [hV]; exact Chg.refl _ _) (fun hHeld => ?_)
    clear hHeld
    rw [← hV]
    clear hV hnV
    have HS0 : Hid (Chg (fun x => x = b5 ∨ x = b5 + 1) V V) := Lh (Chg.refl _ _)
    refine h_load 0 (some 64) 28 (.tmp 8) (b5 + 2) 0 (tagA zTag) _ rfl (by kernel_rfl) (by kernel_rfl) (by kernel_rfl) (by kernel_rfl) (by kernel_rfl) (fun _ _ _ h => h) (by kernel_rfl) (by kernel_rfl) (fun W h => range_keepS HV8.out h (fun e => by rcases e with e | e <;> omega)) Tryz.underlying28 (by kernel_rfl) (by kernel_rfl) HS0.out ?_
    try simp only [Act.put, sA, sB, sC]
    refine hp 1 65 (.agg zStC) rfl HS0.out ?_ (he := fun W hW => by kernel_rfl)
    refine hp 2 4 (.int .i64 0) rfl HS0.out ?_
    refine h_store 3 28 (.tmp 5) (.tmp 64) b5 (tagA zTag) (by kernel_rfl) rfl (by kernel_rfl) rfl rfl rfl rfl 28 ⟨_, HV5.out, rfl⟩ (by kernel_rfl) zTag_one (fun W h _ => h.mono (fun x e => .inl e)) ?_
    intro W8 hgW8 hbW8
    have hz6 := blk_keep HV6.out hgW8 (fun e => by have e : b5 + 1 = b5 := e; omega)
    try simp only [Act.put, sA, sB, sC]
    refine h_store 4 25 (.tmp 6) (.tmp 65) (b5 + 1) zStC (by kernel_rfl) rfl (by kernel_rfl) rfl rfl rfl rfl 25 ⟨_, hz6, rfl⟩ (by kernel_rfl) (by kernel_rfl) (fun W h _ => (hgW8.mono (fun x e => .inl e)).trans_same (h.mono (fun x e => .inr e))) ?_
    intro W9 hgW9 hbW9
    have hz5 := blk_keep hbW8 hgW9 (fun e => by have e : b5 = b5 + 1 := e; omega)
    try simp only [Act.put, sA, sB, sC]
    refine hp 5 7 (.int .i64 0) rfl ((hgW8.mono (fun x e => .inl e)).trans_same (hgW9.mono (fun x e => .inr e))) ?_
    refine hdn ?_ _
    go_wp2_with fail
    refine bodyPost_ret (res_tcct Tryz.results49 _ _ b5 (b5 + 1) 28 25 _ _ (0, 0) (0, 0) _ _ (.int .i64 0) (.int .i64 0) rfl rfl rfl rfl hz5 hbW9 Tryz.underlying28 rfl (by kernel_rfl) Tryz.underlying25 rfl (by kernel_rfl)) rfl ?_
    exact ⟨.inl ⟨HNo.out, rfl⟩, ((HGV.out.then_new hgW8 (fun x e => by have e : x = b5 := e; have := HB5.out; omega)).then_new hgW9 (fun x e => by have e : x = b5 + 1 := e; have := HB5.out; omega))⟩
   have hml : m.length ≤ 65536 := by have := openL_le hom; omega
   obtain ⟨x1, l1, e1, x2, l2, e2, x3, l3, e3, x4, l4, e4, hq1, hq2, hq3, hq4, hq⟩ := tiFields_split m
   have HE := Lh (HE0.out _ _ _ _ _ _ _ hom hq)
   have HN := Lh (rNew Am m cm u2 hmo.rd hml)
   have HMl := Lh hml
   have hx1 : I64 (rdInt m 0).1 := rdInt_bd m 0
   have hx2 : I64 (rdInt l1 e1).1 := rdInt_bd l1 e1
   have hx4 : I64 (rdInt l3 e3).1 := rdInt_bd l3 e3
   have hx3 := rdTag_len l2 e2
   rw [hq1] at hx1
   rw [hq2] at hx2
   rw [hq3] at hx3
   rw [hq4] at hx4
   have HQ1 := Lh hq1
   have HQ2 := Lh hq2
   have HQ3 := Lh hq3
   have HQ4 := Lh hq4
   have HX1 := Lh hx1
   have HX2 := Lh hx2
   have HX3 := Lh hx3
   have HX4 := Lh hx4
   clear hmc hmm hmo hom hml hq hq1 hq2 hq3 hq4 hx1 hx2 hx3 hx4 HE0 HNo0 HOp
   go_wp2_with fail
   refine HN.out.mono ?_
   rintro e u3 ⟨pr, rfl, hI, hg3⟩
   obtain ⟨BL, hBL⟩ : ∃ BL : Nat → Prop, BL = (fun x => u2.heap.size ≤ x ∧ x < u3.heap.size) := ⟨_, rfl⟩
   have HBL : Hid (∀ x, BL x → u2.heap.size ≤ x ∧ x < u3.heap.size) := Lh (fun x h => by rw [hBL] at h; exact h)
   rw [← hBL] at hI
   have HR0 : Hid (RdSt BL pr u3 m m 0) := Lh ⟨0, hI, fun _ => ⟨rfl, Nat.zero_le _⟩⟩
   replace HG := Lh (HG.out.then_non hg3)
   replace HK5 := Lh (blk_keep HK5.out hg3 (fun e => e))
   replace HK6 := Lh (blk_keep HK6.out hg3 (fun e => e))
   replace HK8 := Lh (blk_keep HK8.out hg3 (fun e => e))
   replace HAl := Lh (HAl.out.non hg3)
   have hpr : u2.heap.size ≤ pr := (HBL.out pr (RdSt.ptr HR0.out)).1
   have hbl : ∀ x, BL x → x < u3.heap.size := fun x h => (HBL.out x h).2
   have H1 := Lh (rRInt BL pr m m 0 u3 HR0.out HMl.out)
   rw [HQ1.out] at H1
   simp only at H1
   clear hI hg3 hBL HN HR0
   go_wp2_with fail
   refine H1.out.mono ?_
   rintro e u4 ⟨rfl, hs, hg⟩
   replace HK5 := Lh (blk_keep HK5.out hg (fun e => by have e : b5 = pr := e; omega))
   replace HK6 := Lh (blk_keep HK6.out hg (fun e => by have e : b5 + 1 = pr := e; omega))
   replace HK8 := Lh (blk_keep HK8.out hg (fun e => by have e : b5 + 2 = pr := e; omega))
   replace HAl := Lh (HAl.out.keep hg (fun b o e hl e2 => by injection e with e; injection e with e; subst e; have e2 : g1 = pr := e2; omega))
   replace HG := Lh (HG.out.then_new hg (fun x e => by have e : x = pr := e; have := HB5.out; omega))
   have H2 := Lh (rRInt BL pr m l1 e1 u4 hs HMl.out)
   rw [HQ2.out] at H2
   simp only at H2
   have hsz4 : u3.heap.size ≤ u4.heap.size := hg.size
   clear hs hg H1
   go_wp2_with fail
   refine H2.out.mono ?_
   rintro e u5 ⟨rfl, hs, hg⟩
   replace HK5 := Lh (blk_keep HK5.out hg (fun e => by have e : b5 = pr := e; omega))
   replace HK6 := Lh (blk_keep HK6.out hg (fun e => by have e : b5 + 1 = pr := e; omega))
   replace HK8 := Lh (blk_keep HK8.out hg (fun e => by have e : b5 + 2 = pr := e; omega))
   replace HAl := Lh (HAl.out.keep hg (fun b o e hl e2 => by injection e with e; injection e with e; subst e; have e2 : g1 = pr := e2; omega))
   replace HG := Lh (HG.out.then_new hg (fun x e => by have e : x = pr := e; have := HB5.out; omega))
   have hbl5 : ∀ x, BL x → x < u5.heap.size := fun x h => by have := hbl x h; have := (show u3.heap.size ≤ u5.heap.size from Nat.le_trans hsz4 hg.size); omega
   have H3 := Lh (rRTag BL pr m l2 e2 u5 hs HMl.out hbl5)
   rw [HQ3.out] at H3
   simp only at H3
   clear hs hg H2
   have hX3s := tagA_size x3 HX3.out
   have hX31 := tagA_one x3
   obtain ⟨X3, hX3e⟩ : ∃ X, tagA x3 = X := ⟨_, rfl⟩
   rw [hX3e] at hX3s hX31
   simp only [hX3e] at H3
   have HX3e := Lh hX3e
   have HX3s := Lh hX3s
   have HX31 := Lh hX31
   clear hX3e hX3s hX31 hbl5
   go_wp2_with fail
   refine H3.out.mono ?_
   rintro e u6 ⟨rfl, hs, hg⟩
   replace HK5 := Lh (blk_keep HK5.out hg (fun e => by have e : b5 = pr := e; omega))
   replace HK6 := Lh (blk_keep HK6.out hg (fun e => by have e : b5 + 1 = pr := e; omega))
   replace HK8 := Lh (blk_keep HK8.out hg (fun e => by have e : b5 + 2 = pr := e; omega))
   replace HAl := Lh (HAl.out.keep hg (fun b o e hl e2 => by injection e with e; injection e with e; subst e; have e2 : g1 = pr := e2; omega))
   replace HG := Lh (HG.out.then_new hg (fun x e => by have e : x = pr := e; have := HB5.out; omega))
   have HS6 := Lh hs
   clear hs hg H3
   go_wp2_with (refine sel none (.store 28 (.tmp 8) (.tmp 73)) ?_; refine wpList_store_rowA rfl 28 (.tmp 8) (.tmp 73) rfl (b5 + 2) X3 rfl rfl 28 (tagA zTag) HK8.out (by rw [HX3s.out]; kernel_rfl) (by rw [HX3s.out]; kernel_rfl) HX31.out ?_; intro u7 hg hb7; have HK87 := Lh hb7; have HK57 := Lh (blk_keep HK5.out hg (fun e => by have e : b5 = b5 + 2 := e; omega)); have HK67 := Lh (blk_keep HK6.out hg (fun e => by have e : b5 + 1 = b5 + 2 := e; omega)); have HAl7 := Lh (HAl.out.keep hg (fun b o e hl e2 => by injection e with e; injection e with e; subst e; have e2 : g1 = b5 + 2 := e2; have := HGe.out; omega)); have HG7 := Lh (HG.out.then_new hg (fun x e => by have e : x = b5 + 2 := e; have := HB5.out; omega)); have hs7 := HS6.out.keep hg (fun x e hx => by have e : x = b5 + 2 := e; have := (HBL.out x hx).1; omega); have H4 := Lh (rRInt BL pr m l3 e3 u7 hs7 HMl.out); rw [HQ4.out] at H4; simp only at H4; clear hg hb7 hs7)
   replace HK5 := HK57
   replace HK6 := HK67
   replace HK8 := HK87
   replace HAl := HAl7
   replace HG := HG7
   clear HK57 HK67 HK87 HAl7 HG7
   refine H4.out.mono ?_
   rintro e u8 ⟨rfl, hs, hg⟩
   replace HK5 := Lh (blk_keep HK5.out hg (fun e => by have e : b5 = pr := e; omega))
   replace HK6 := Lh (blk_keep HK6.out hg (fun e => by have e : b5 + 1 = pr := e; omega))
   replace HK8 := Lh (blk_keep HK8.out hg (fun e => by have e : b5 + 2 = pr := e; omega))
   replace HAl := Lh (HAl.out.keep hg (fun b o e hl e2 => by injection e with e; injection e with e; subst e; have e2 : g1 = pr := e2; omega))
   replace HG := Lh (HG.out.then_new hg (fun x e => by have e : x = pr := e; have := HB5.out; omega))
   have HEn := Lh (rREnd BL pr m l4 e4 u8 hs HMl.out)
   clear hs hg H4
   have her := rEndV_zero l4 e4
   obtain ⟨E9, hE9⟩ : ∃ x, rEndV l4 e4 = x := ⟨_, rfl⟩
   rw [hE9] at HEn her
   clear hE9
   have hx1 := HX1.out
   have hx2 := HX2.out
   clear HX1 HX2 HX4 HQ1 HQ2 HQ3 HQ4 HS6 HBL hbl hsz4 hg1 hg1u hpr
   by_cases h1 : E9 = 0
   case neg =>
    have d1 : (E9 != 0) = true := by simpa using h1
    have HNo := Lh (show rKAt E odd = none by
      rw [HE.out, if_neg]
      rintro ⟨e1, e2, e3, e4, e5, e6⟩
      exact h1 (her.2 e1))
    clear HE her
    go_wp2_with fail
    refine HEn.out.mono ?_
    rintro e u9 ⟨rfl, hg⟩
    replace HK5 := Lh (blk_keep HK5.out hg (fun e => e))
    replace HK6 := Lh (blk_keep HK6.out hg (fun e => e))
    replace HK8 := Lh (blk_keep HK8.out hg (fun e => e))
    replace HAl := Lh (HAl.out.non hg)
    replace HG := Lh (HG.out.then_non hg)
    clear hg
    go_wp2_with (first
      | (refine sel none (.store 28 (.tmp 5) (.tmp 106)) ?_; refine wpList_store_rowA rfl 28 (.tmp 5) (.tmp 106) rfl b5 (tagA zTag) rfl (by kernel_rfl) 28 (tagA zTag) HK5.out (by kernel_rfl) rfl zTag_one ?_; intro W8 hgW8 hbW8; have hz6 := blk_keep HK6.out hgW8 (fun e => by have e : b5 + 1 = b5 := e; omega))
      | (refine sel none (.store 25 (.tmp 6) (.tmp 107)) ?_; refine wpList_store_rowA rfl 25 (.tmp 6) (.tmp 107) rfl (b5 + 1) zStC rfl rfl 25 zStC hz6 (by kernel_rfl) rfl (by kernel_rfl) ?_; intro W9 hgW9 hbW9; have hz5 := blk_keep hbW8 hgW9 (fun e => by have e : b5 = b5 + 1 := e; omega)))
    exact bodyPost_ret (res_tcct Tryz.results49 _ _ b5 (b5 + 1) 28 25 _ _ (0, 0) (0, 0) _ _ (.int .i64 0) (.int .i64 0) rfl rfl rfl rfl hz5 hbW9 Tryz.underlying28 rfl (by kernel_rfl) Tryz.underlying25 rfl (by kernel_rfl)) rfl ⟨.inl ⟨HNo.out, rfl⟩, ((HG.out.then_new hgW8 (fun x e => by have e : x = b5 := e; have := HB5.out; omega)).then_new hgW9 (fun x e => by have e : x = b5 + 1 := e; have := HB5.out; omega))⟩
   have hel := her.1 h1
   subst h1
   have d1 : ((0 : Int) != 0) = false := by decide
   by_cases h2 : x1 < 1
   case pos =>
    have d2 : decide (x1 < 1) = true := by simpa using h2
    have HNo := Lh (show rKAt E odd = none by
      rw [HE.out, if_neg]
      rintro ⟨e1, e2, e3, e4, e5, e6⟩
      omega)
    clear HE her
    go_wp2_with fail
    refine HEn.out.mono ?_
    rintro e u9 ⟨rfl, hg⟩
    replace HK5 := Lh (blk_keep HK5.out hg (fun e => e))
    replace HK6 := Lh (blk_keep HK6.out hg (fun e => e))
    replace HK8 := Lh (blk_keep HK8.out hg (fun e => e))
    replace HAl := Lh (HAl.out.non hg)
    replace HG := Lh (HG.out.then_non hg)
    clear hg
    go_wp2_with (first
      | (refine sel none (.store 28 (.tmp 5) (.tmp 106)) ?_; refine wpList_store_rowA rfl 28 (.tmp 5) (.tmp 106) rfl b5 (tagA zTag) rfl (by kernel_rfl) 28 (tagA zTag) HK5.out (by kernel_rfl) rfl zTag_one ?_; intro W8 hgW8 hbW8; have hz6 := blk_keep HK6.out hgW8 (fun e => by have e : b5 + 1 = b5 := e; omega))
      | (refine sel none (.store 25 (.tmp 6) (.tmp 107)) ?_; refine wpList_store_rowA rfl 25 (.tmp 6) (.tmp 107) rfl (b5 + 1) zStC rfl rfl 25 zStC hz6 (by kernel_rfl) rfl (by kernel_rfl) ?_; intro W9 hgW9 hbW9; have hz5 := blk_keep hbW8 hgW9 (fun e => by have e : b5 = b5 + 1 := e; omega)))
    exact bodyPost_ret (res_tcct Tryz.results49 _ _ b5 (b5 + 1) 28 25 _ _ (0, 0) (0, 0) _ _ (.int .i64 0) (.int .i64 0) rfl rfl rfl rfl hz5 hbW9 Tryz.underlying28 rfl (by kernel_rfl) Tryz.underlying25 rfl (by kernel_rfl)) rfl ⟨.inl ⟨HNo.out, rfl⟩, ((HG.out.then_new hgW8 (fun x e => by have e : x = b5 := e; have := HB5.out; omega)).then_new hgW9 (fun x e => by have e : x = b5 + 1 := e; have := HB5.out; omega))⟩
   have d2 : decide (x1 < 1) = false := by simpa using h2
   have hm : x1.tmod 2 = x1 % 2 := Int.tmod_eq_emod_of_nonneg (by omega)
   have hwm : IntKind.i64.wrap (x1 % 2) = x1 % 2 := Go.IntWalk.i64_in _ (by omega)
   by_cases h3 : x1 % 2 = (odd : Int)
   case neg =>
    have d3 : (x1 % 2 != (odd : Int)) = true := by simpa using h3
    have HNo := Lh (show rKAt E odd = none by
      rw [HE.out, if_neg]
      rintro ⟨e1, e2, e3, e4, e5, e6⟩
      exact h3 e3)
    clear HE her
    go_wp2_with fail
    refine HEn.out.mono ?_
    rintro e u9 ⟨rfl, hg⟩
    replace HK5 := Lh (blk_keep HK5.out hg (fun e => e))
    replace HK6 := Lh (blk_keep HK6.out hg (fun e => e))
    replace HK8 := Lh (blk_keep HK8.out hg (fun e => e))
    replace HAl := Lh (HAl.out.non hg)
    replace HG := Lh (HG.out.then_non hg)
    clear hg
    go_wp2_with (first
      | (refine sel none (.store 28 (.tmp 5) (.tmp 106)) ?_; refine wpList_store_rowA rfl 28 (.tmp 5) (.tmp 106) rfl b5 (tagA zTag) rfl (by kernel_rfl) 28 (tagA zTag) HK5.out (by kernel_rfl) rfl zTag_one ?_; intro W8 hgW8 hbW8; have hz6 := blk_keep HK6.out hgW8 (fun e => by have e : b5 + 1 = b5 := e; omega))
      | (refine sel none (.store 25 (.tmp 6) (.tmp 107)) ?_; refine wpList_store_rowA rfl 25 (.tmp 6) (.tmp 107) rfl (b5 + 1) zStC rfl rfl 25 zStC hz6 (by kernel_rfl) rfl (by kernel_rfl) ?_; intro W9 hgW9 hbW9; have hz5 := blk_keep hbW8 hgW9 (fun e => by have e : b5 = b5 + 1 := e; omega)))
    exact bodyPost_ret (res_tcct Tryz.results49 _ _ b5 (b5 + 1) 28 25 _ _ (0, 0) (0, 0) _ _ (.int .i64 0) (.int .i64 0) rfl rfl rfl rfl hz5 hbW9 Tryz.underlying28 rfl (by kernel_rfl) Tryz.underlying25 rfl (by kernel_rfl)) rfl ⟨.inl ⟨HNo.out, rfl⟩, ((HG.out.then_new hgW8 (fun x e => by have e : x = b5 := e; have := HB5.out; omega)).then_new hgW9 (fun x e => by have e : x = b5 + 1 := e; have := HB5.out; omega))⟩
   have d3 : (x1 % 2 != (odd : Int)) = false := by simpa using h3
   by_cases h4 : x2 < 1
   case pos =>
    have d4 : decide (x2 < 1) = true := by simpa using h4
    have HNo := Lh (show rKAt E odd = none by
      rw [HE.out, if_neg]
      rintro ⟨e1, e2, e3, e4, e5, e6⟩
      omega)
    clear HE her
    go_wp2_with fail
    refine HEn.out.mono ?_
    rintro e u9 ⟨rfl, hg⟩
    replace HK5 := Lh (blk_keep HK5.out hg (fun e => e))
    replace HK6 := Lh (blk_keep HK6.out hg (fun e => e))
    replace HK8 := Lh (blk_keep HK8.out hg (fun e => e))
    replace HAl := Lh (HAl.out.non hg)
    replace HG := Lh (HG.out.then_non hg)
    clear hg
    go_wp2_with (first
      | (refine sel none (.store 28 (.tmp 5) (.tmp 106)) ?_; refine wpList_store_rowA rfl 28 (.tmp 5) (.tmp 106) rfl b5 (tagA zTag) rfl (by kernel_rfl) 28 (tagA zTag) HK5.out (by kernel_rfl) rfl zTag_one ?_; intro W8 hgW8 hbW8; have hz6 := blk_keep HK6.out hgW8 (fun e => by have e : b5 + 1 = b5 := e; omega))
      | (refine sel none (.store 25 (.tmp 6) (.tmp 107)) ?_; refine wpList_store_rowA rfl 25 (.tmp 6) (.tmp 107) rfl (b5 + 1) zStC rfl rfl 25 zStC hz6 (by kernel_rfl) rfl (by kernel_rfl) ?_; intro W9 hgW9 hbW9; have hz5 := blk_keep hbW8 hgW9 (fun e => by have e : b5 = b5 + 1 := e; omega)))
    exact bodyPost_ret (res_tcct Tryz.results49 _ _ b5 (b5 + 1) 28 25 _ _ (0, 0) (0, 0) _ _ (.int .i64 0) (.int .i64 0) rfl rfl rfl rfl hz5 hbW9 Tryz.underlying28 rfl (by kernel_rfl) Tryz.underlying25 rfl (by kernel_rfl)) rfl ⟨.inl ⟨HNo.out, rfl⟩, ((HG.out.then_new hgW8 (fun x e => by have e : x = b5 := e; have := HB5.out; omega)).then_new hgW9 (fun x e => by have e : x = b5 + 1 := e; have := HB5.out; omega))⟩
   have d4 : decide (x2 < 1) = false := by simpa using h4
   by_cases h5 : 6080 < x2
   case pos =>
    have d5 : decide (6080 < x2) = true := by simpa using h5
    have HNo := Lh (show rKAt E odd = none by
      rw [HE.out, if_neg]
      rintro ⟨e1, e2, e3, e4, e5, e6⟩
      omega)
    clear HE her
    go_wp2_with fail
    refine HEn.out.mono ?_
    rintro e u9 ⟨rfl, hg⟩
    replace HK5 := Lh (blk_keep HK5.out hg (fun e => e))
    replace HK6 := Lh (blk_keep HK6.out hg (fun e => e))
    replace HK8 := Lh (blk_keep HK8.out hg (fun e => e))
    replace HAl := Lh (HAl.out.non hg)
    replace HG := Lh (HG.out.then_non hg)
    clear hg
    go_wp2_with (first
      | (refine sel none (.store 28 (.tmp 5) (.tmp 106)) ?_; refine wpList_store_rowA rfl 28 (.tmp 5) (.tmp 106) rfl b5 (tagA zTag) rfl (by kernel_rfl) 28 (tagA zTag) HK5.out (by kernel_rfl) rfl zTag_one ?_; intro W8 hgW8 hbW8; have hz6 := blk_keep HK6.out hgW8 (fun e => by have e : b5 + 1 = b5 := e; omega))
      | (refine sel none (.store 25 (.tmp 6) (.tmp 107)) ?_; refine wpList_store_rowA rfl 25 (.tmp 6) (.tmp 107) rfl (b5 + 1) zStC rfl rfl 25 zStC hz6 (by kernel_rfl) rfl (by kernel_rfl) ?_; intro W9 hgW9 hbW9; have hz5 := blk_keep hbW8 hgW9 (fun e => by have e : b5 = b5 + 1 := e; omega)))
    exact bodyPost_ret (res_tcct Tryz.results49 _ _ b5 (b5 + 1) 28 25 _ _ (0, 0) (0, 0) _ _ (.int .i64 0) (.int .i64 0) rfl rfl rfl rfl hz5 hbW9 Tryz.underlying28 rfl (by kernel_rfl) Tryz.underlying25 rfl (by kernel_rfl)) rfl ⟨.inl ⟨HNo.out, rfl⟩, ((HG.out.then_new hgW8 (fun x e => by have e : x = b5 := e; have := HB5.out; omega)).then_new hgW9 (fun x e => by have e : x = b5 + 1 := e; have := HB5.out; omega))⟩
   have d5 : decide (6080 < x2) = false := by simpa using h5
   obtain ⟨sz, rfl⟩ : ∃ n : Nat, x2 = n := ⟨x2.toNat, by omega⟩
   have htl : (al.take sz).length = sz := by rw [List.length_take, HKl.out]; omega
   have HSm := Lh (fun W (hr : Rd W (some ⟨g1, o1, none⟩) (al.take sz)) => rSum (some ⟨g1, o1, none⟩) (al.take sz) c1 W hr (by omega))
   have HPa := Lh (fun W (hr : Rd W (some ⟨g1, o1, none⟩) (al.take sz)) => r21Parse (some ⟨g1, o1, none⟩) (al.take sz) c1 W hr (by omega))
   have hq := crcSum_lt (al.take sz)
   have hEq := HE.out
   rw [Int.toNat_natCast] at hEq
   obtain ⟨ql, hql⟩ : ∃ q : Int, (crcSum (al.take sz) : Int) = q := ⟨_, rfl⟩
   rw [hql] at hEq
   simp only [hql] at HSm
   rw [htl] at HSm HPa
   have hq2 : 0 ≤ ql ∧ ql < 4294967296 := by omega
   have hqw : IntKind.i64.wrap ql = ql := Go.IntWalk.i64_in _ (by omega)
   have HTk := Lh (HAl.out.take sz)
   clear hq hql htl HE
   have HE := Lh hEq
   clear hEq
   by_cases h6 : x4 = ql
   case neg =>
    have d6 : (x4 != ql) = true := by simpa using h6
    have HNo := Lh (show rKAt E odd = none by
      rw [HE.out, if_neg]
      rintro ⟨e1, e2, e3, e4, e5, e6⟩
      exact h6 e6)
    clear HE her
    go_wp2_with fail
    refine HEn.out.mono ?_
    rintro e u9 ⟨rfl, hg⟩
    replace HK5 := Lh (blk_keep HK5.out hg (fun e => e))
    replace HK6 := Lh (blk_keep HK6.out hg (fun e => e))
    replace HK8 := Lh (blk_keep HK8.out hg (fun e => e))
    replace HAl := Lh (HAl.out.non hg)
    replace HG := Lh (HG.out.then_non hg)
    clear hg
    go_wp2_with fail
    refine (HSm.out _ (HAl.out.take sz)).mono ?_
    rintro e u10 ⟨rfl, rfl⟩
    go_wp2_with (first
      | (refine sel none (.store 28 (.tmp 5) (.tmp 106)) ?_; refine wpList_store_rowA rfl 28 (.tmp 5) (.tmp 106) rfl b5 (tagA zTag) rfl (by kernel_rfl) 28 (tagA zTag) HK5.out (by kernel_rfl) rfl zTag_one ?_; intro W8 hgW8 hbW8; have hz6 := blk_keep HK6.out hgW8 (fun e => by have e : b5 + 1 = b5 := e; omega))
      | (refine sel none (.store 25 (.tmp 6) (.tmp 107)) ?_; refine wpList_store_rowA rfl 25 (.tmp 6) (.tmp 107) rfl (b5 + 1) zStC rfl rfl 25 zStC hz6 (by kernel_rfl) rfl (by kernel_rfl) ?_; intro W9 hgW9 hbW9; have hz5 := blk_keep hbW8 hgW9 (fun e => by have e : b5 = b5 + 1 := e; omega)))
    exact bodyPost_ret (res_tcct Tryz.results49 _ _ b5 (b5 + 1) 28 25 _ _ (0, 0) (0, 0) _ _ (.int .i64 0) (.int .i64 0) rfl rfl rfl rfl hz5 hbW9 Tryz.underlying28 rfl (by kernel_rfl) Tryz.underlying25 rfl (by kernel_rfl)) rfl ⟨.inl ⟨HNo.out, rfl⟩, ((HG.out.then_new hgW8 (fun x e => by have e : x = b5 := e; have := HB5.out; omega)).then_new hgW9 (fun x e => by have e : x = b5 + 1 := e; have := HB5.out; omega))⟩
   have d6 : (x4 != ql) = false := by simpa using h6
   have hE2 := HE.out
   rw [if_pos ⟨hel, by omega, h3, by omega, by omega, h6⟩] at hE2
   replace HE := Lh hE2
   clear hE2 her h6
   go_wp2_with fail
   refine HEn.out.mono ?_
   rintro e u9 ⟨rfl, hg⟩
   replace HK5 := Lh (blk_keep HK5.out hg (fun e => e))
   replace HK6 := Lh (blk_keep HK6.out hg (fun e => e))
   replace HK8 := Lh (blk_keep HK8.out hg (fun e => e))
   replace HAl := Lh (HAl.out.non hg)
   replace HG := Lh (HG.out.then_non hg)
   clear hg
   go_wp2_with fail
   refine (HSm.out _ (HAl.out.take sz)).mono ?_
   rintro e u10 ⟨rfl, rfl⟩
   have hbP := blk_lt HK8.out
   go_wp2_with fail
   refine (HPa.out _ (HAl.out.take sz)).mono ?_
   rintro e v1 (⟨s, vb, vd, hps, rfl, hst, hg⟩ | ⟨hps, rfl, hg⟩)
   case inr =>
    have HNo := Lh (show rKAt E odd = none by rw [HE.out, hps]; rfl)
    replace HK5 := Lh (blk_keep HK5.out hg (fun e => e))
    replace HK6 := Lh (blk_keep HK6.out hg (fun e => e))
    replace HG := Lh (HG.out.then_non hg)
    clear hg hps
    go_wp2_with (first
      | (refine sel none (.store 25 (.tmp 21) (.tmp 113)) ?_; refine wpList_store_rowA rfl 25 (.tmp 21) (.tmp 113) rfl v1.heap.size zStC rfl rfl 25 zStC (blk_new _ _) (by kernel_rfl) rfl (by kernel_rfl) ?_; intro v2 hg hb; refine Vm_stop ?_))
    refine HoleV.mk ?_
    have hal := ((Chg.refl Non v1).alloc (.cells zStC 25)).then_new hg (fun x e => by have e : x = v1.heap.size := e; omega)
    replace HK5 := Lh (blk_keep HK5.out hal (fun e => e))
    replace HK6 := Lh (blk_keep HK6.out hal (fun e => e))
    replace HG := Lh (HG.out.then_non hal)
    clear hal hg hb
    go_wp2_with (first
      | (refine sel none (.store 28 (.tmp 5) (.tmp 117)) ?_; refine wpList_store_rowA rfl 28 (.tmp 5) (.tmp 117) rfl b5 (tagA zTag) rfl (by kernel_rfl) 28 (tagA zTag) HK5.out (by kernel_rfl) rfl zTag_one ?_; intro W8 hgW8 hbW8; have hz6 := blk_keep HK6.out hgW8 (fun e => by have e : b5 + 1 = b5 := e; omega))
      | (refine sel none (.store 25 (.tmp 6) (.tmp 118)) ?_; refine wpList_store_rowA rfl 25 (.tmp 6) (.tmp 118) rfl (b5 + 1) zStC rfl rfl 25 zStC hz6 (by kernel_rfl) rfl (by kernel_rfl) ?_; intro W9 hgW9 hbW9; have hz5 := blk_keep hbW8 hgW9 (fun e => by have e : b5 = b5 + 1 := e; omega)))
    exact bodyPost_ret (res_tcct Tryz.results49 _ _ b5 (b5 + 1) 28 25 _ _ (0, 0) (0, 0) _ _ (.int .i64 0) (.int .i64 0) rfl rfl rfl rfl hz5 hbW9 Tryz.underlying28 rfl (by kernel_rfl) Tryz.underlying25 rfl (by kernel_rfl)) rfl ⟨.inl ⟨HNo.out, rfl⟩, ((HG.out.then_new hgW8 (fun x e => by have e : x = b5 := e; have := HB5.out; omega)).then_new hgW9 (fun x e => by have e : x = b5 + 1 := e; have := HB5.out; omega))⟩
   have HYes := Lh (show rKAt E odd = some (x1, x3, s) by rw [HE.out, hps]; rfl)
   replace HK5 := Lh (blk_keep HK5.out hg (fun e => e))
   replace HK6 := Lh (blk_keep HK6.out hg (fun e => e))
   replace HK8 := Lh (blk_keep HK8.out hg (fun e => e))
   have HSt := Lh hst
   have hsz9 := HG.out.size
   replace HG := Lh (HG.out.then_non hg)
   obtain ⟨A4, c4, rfl, _⟩ := hst.ps
   obtain ⟨A5, c5, rfl, _⟩ := hst.qs
   have hvb := blk_lt HK8.out
   clear hg hps hst
   go_wp2_with (first
     | (refine sel none (.store 25 (.tmp 21) (.tmp 113)) ?_; refine wpList_store_rowA rfl 25 (.tmp 21) (.tmp 113) rfl v1.heap.size #[.int .i64 s.frames, .slice A4 s.parts.length c4, .slice A5 s.queues.length c5] rfl rfl 25 zStC (blk_new _ _) (by kernel_rfl) rfl (by kernel_rfl) ?_; intro v2 hg hb; refine Vm_stop ?_))
   refine HoleV.mk ?_
   have hal := ((Chg.refl Non v1).alloc (.cells zStC 25)).then_new hg (fun x e => by have e : x = v1.heap.size := e; omega)
   replace HK5 := Lh (blk_keep HK5.out hal (fun e => e))
   replace HK6 := Lh (blk_keep HK6.out hal (fun e => e))
   replace HK8 := Lh (blk_keep HK8.out hal (fun e => e))
   replace HG := Lh (HG.out.then_non hal)
   replace HSt := Lh (HSt.out.non hal)
   have HbS := Lh hb
   clear hal hg hb
   go_wp2_with fail
   obtain ⟨V, hV⟩ : ∃ V, V = v2.drew := ⟨_, rfl⟩
   have hnV : Chg Non v2 V := by rw [hV]; exact (Chg.refl Non _).drew
   have HGV := Lh (HG.out.then_non hnV)
   have HV5 := Lh (blk_keep HK5.out hnV (fun e => e))
   have HV6 := Lh (blk_keep HK6.out hnV (fun e => e))
   have HV8 := Lh (range_block (blk_keep HK8.out hnV (fun e => e)))
   have HVS := Lh (range_block (blk_keep HbS.out hnV (fun e => e)))
   replace HSt := Lh (HSt.out.non hnV)
   refine wp_region_held_drew (S := Chg (fun x => x = b5 ∨ x = b5 + 1) V) (by kernel_rfl) (by rw [hV]; exact Chg.refl _ _) (fun hHeld => ?_)
   clear hHeld
   rw [← hV]
   clear hV hnV
   have HS0 : Hid (Chg (fun x => x = b5 ∨ x = b5 + 1) V V) := Lh (Chg.refl _ _)
   refine hp 0 119 (.int .i64 x1) rfl HS0.out ?_
   refine h_load 1 (some 120) 28 (.tmp 8) (b5 + 2) 0 X3 _ rfl (by kernel_rfl) (by kernel_rfl) (by kernel_rfl) (by kernel_rfl) (by kernel_rfl) (fun _ _ _ h => h) (by kernel_rfl) (by kernel_rfl) (fun W h => range_keepS HV8.out h (fun e => by rcases e with e | e <;> omega)) Tryz.underlying28 (by kernel_rfl) (by rw [HX3s.out]; kernel_rfl) HS0.out ?_
   try simp only [Act.put, sA, sB, sC]
   refine h_load 2 (some 121) 25 (.tmp 21) (v1.heap.size) 0 #[.int .i64 s.frames, .slice A4 s.parts.length c4, .slice A5 s.queues.length c5] _ rfl (by kernel_rfl) (by kernel_rfl) (by kernel_rfl) (by kernel_rfl) (by kernel_rfl) (fun _ _ _ h => h) (by kernel_rfl) (by kernel_rfl) (fun W h => range_keepS HVS.out h (fun e => by rcases e with e | e <;> omega)) Tryz.underlying25 (by kernel_rfl) (by kernel_rfl) HS0.out ?_
   try simp only [Act.put, sA, sB, sC]
   refine hp 3 4 (.int .i64 x1) rfl HS0.out ?_
   refine h_store 4 28 (.tmp 5) (.tmp 120) b5 X3 (by kernel_rfl) rfl (by kernel_rfl) rfl rfl rfl rfl 28 ⟨_, HV5.out, by rw [HX3s.out]; kernel_rfl⟩ (by rw [HX3s.out]; kernel_rfl) HX31.out (fun W h _ => h.mono (fun x e => .inl e)) ?_
   intro W8 hgW8 hbW8
   have hz6 := blk_keep HV6.out hgW8 (fun e => by have e : b5 + 1 = b5 := e; omega)
   try simp only [Act.put, sA, sB, sC]
   refine h_store 5 25 (.tmp 6) (.tmp 121) (b5 + 1) #[.int .i64 s.frames, .slice A4 s.parts.length c4, .slice A5 s.queues.length c5] (by kernel_rfl) rfl (by kernel_rfl) rfl rfl rfl rfl 25 ⟨_, hz6, rfl⟩ (by kernel_rfl) (by kernel_rfl) (fun W h _ => (hgW8.mono (fun x e => .inl e)).trans_same (h.mono (fun x e => .inr e))) ?_
   intro W9 hgW9 hbW9
   have hz5 := blk_keep hbW8 hgW9 (fun e => by have e : b5 = b5 + 1 := e; omega)
   try simp only [Act.put, sA, sB, sC]
   refine hp 6 7 (.int .i64 0) rfl ((hgW8.mono (fun x e => .inl e)).trans_same (hgW9.mono (fun x e => .inr e))) ?_
   refine hdn ?_ _
   go_wp2_with fail
   have HZ2 := Lh ((hgW8.mono (fun x (e : x = b5) => (.inl e : x = b5 ∨ x = b5 + 1))).trans_same (hgW9.mono (fun x e => .inr e)))
   have HZ := Lh (HGV.out.then_new HZ2.out (fun x e => by have := HB5.out; rcases e with e | e <;> omega))
   refine bodyPost_ret (res_tcct Tryz.results49 _ _ b5 (b5 + 1) 28 25 _ _ (0, 0) (0, 0) _ _ (.int .i64 x1) (.int .i64 0) rfl rfl rfl rfl hz5 hbW9 Tryz.underlying28 rfl (by rw [HX3s.out]; kernel_rfl) Tryz.underlying25 rfl (by kernel_rfl)) rfl ?_
   refine ⟨.inr ⟨x1, x3, s, _, _, HYes.out, HX3.out, by omega, by have := hx1.2; omega, by rw [HX3e.out], ?_⟩, HZ.out⟩
   refine (HSt.out.keep HZ2.out (fun b hb e => ?_)).mono (fun b hb => ?_)
   ·have h1 := hb
    unfold From at h1
    rcases e with e | e <;> omega
   ·have h1 := hb
    have := HB5.out
    unfold From at h1 ⊢
    omega
theorem rKAt_num {E : Rk} {p : Nat} {x : Int × List UInt8 × Sta} (h : rKAt E p = some x) : x.1 % 2 = (p : Int) ∧ 1 ≤ x.1 := by
 unfold rKAt at h
 simp only at h
 split at h
 ·rename_i hc
  obtain ⟨s, _, rfl⟩ := Option.map_eq_some_iff.1 h
  obtain ⟨h1, h2, _⟩ := hc
  refine ⟨h2, ?_⟩
  simp only [tiRd, Bool.and_eq_true, decide_eq_true_eq] at h1 ⊢
  exact h1.1.1.2
 ·cases h
structure Tel25 (r : Option (Int × List UInt8 × Sta)) (B : Nat) (W : World) (n : Int) (X S : Array Value) : Prop where
 num : n = kNum r
 ge : 0 ≤ n ∧ n ≤ 9223372036854775807
 xs : X.size = 32
 x1 : X.all (·.oneCell') = true
 ss : S.size = 3
 s1 : S.all (·.oneCell') = true
 told : 1 ≤ n → ∃ hash s b d, r = some (n, hash, s) ∧ hash.length = 32 ∧ X = tagA hash ∧ S = #[.int .i64 s.frames, b, d] ∧ StaV (From B) W s b d
theorem One25.tel {r : Option (Int × List UInt8 × Sta)} {w w' : World} {e : Ending} (h : One25 r 0 w e w') : ∃ n X S, e = .returned (.tuple #[.int .i64 n, .agg X, .agg S, .int .i64 0]) ∧ Tel25 r w.heap.size w' n X S ∧ Chg Non w w' := by
 obtain ⟨⟨rfl, rfl⟩ | ⟨n, hash, s, b, d, rfl, hh, h1, h2, rfl, hs⟩, hg⟩ := h
 ·exact ⟨0, tagA zTag, zStC, rfl, ⟨rfl, by omega, zTag_size, zTag_one, rfl, by kernel_rfl, fun h => by omega⟩, hg⟩
 ·refine ⟨n, tagA hash, #[.int .i64 s.frames, b, d], rfl, ⟨rfl, by omega, tagA_size hash hh, tagA_one hash, rfl, ?_, fun _ => ⟨hash, s, b, d, rfl, hh, rfl, rfl, hs⟩⟩, hg⟩
  obtain ⟨A, c, rfl, _⟩ := hs.ps
  obtain ⟨A2, c2, rfl, _⟩ := hs.qs
  simp [Value.oneCell']
theorem Tel25.non {r : Option (Int × List UInt8 × Sta)} {B : Nat} {W W' : World} {n : Int} {X S : Array Value} (h : Tel25 r B W n X S) (hg : Chg Non W W') : Tel25 r B W' n X S :=
 ⟨h.num, h.ge, h.xs, h.x1, h.ss, h.s1, fun h1 => by
   obtain ⟨hash, s, b, d, e1, e2, e3, e4, e5⟩ := h.told h1
   exact ⟨hash, s, b, d, e1, e2, e3, e4, e5.non hg⟩⟩
theorem Tel25.base {r : Option (Int × List UInt8 × Sta)} {B B' : Nat} {W : World} {n : Int} {X S : Array Value} (h : Tel25 r B W n X S) (hB : B' ≤ B) : Tel25 r B' W n X S :=
 ⟨h.num, h.ge, h.xs, h.x1, h.ss, h.s1, fun h1 => by
   obtain ⟨hash, s, b, d, e1, e2, e3, e4, e5⟩ := h.told h1
   exact ⟨hash, s, b, d, e1, e2, e3, e4, e5.mono (fun b hb => Nat.le_trans hB hb)⟩⟩
theorem r25Get_down (B p q : Nat) (E : Rk) (w : World) (h : IsRk B p q w E) (hd : E.down = true) :
  Calls Tryz.prog 15 #[.pointer (some ⟨p, 0, none⟩)] w fun e w' => e = .returned (.tuple #[.int .i64 0, .agg (tagA zTag), .agg zStC, .int .i64 60]) ∧ Chg Non w w' := by
 have HO := Lh (fun W (hg : Chg Non w W) => r25one_down B p q E 0 W (h.non hg) hd (by omega))
 clear h hd
 go_enter Tryz.func15, Tryz.ntmps15
 go_wp2_with fail
 refine (HO.out _ (((Chg.refl Non w).alloc _).alloc _)).mono ?_
 rintro e u1 ⟨rfl, hg⟩
 have HK5 : Hid (u1.heap[w.heap.size]? = some (.cells (tagA zTag) 28 (0, 0))) := Lh (blk_keep (blk_new w (.cells (tagA zTag) 28)) (((Chg.refl Non _).alloc (.cells zStC 25)).then_non hg) (fun e => e))
 have hk6 : u1.heap[w.heap.size + 1]? = some (.cells zStC 25 (0, 0)) := by
  have h := blk_keep (blk_new (w.alloc (.cells (tagA zTag) 28)) (.cells zStC 25)) hg (fun e => e)
  rw [show (w.alloc (.cells (tagA zTag) 28)).heap.size = w.heap.size + 1 by simp] at h
  exact h
 have HK6 := Lh hk6
 have HG : Hid (Chg Non w u1) := Lh ((((Chg.refl Non w).alloc (.cells (tagA zTag) 28)).alloc (.cells zStC 25)).then_non hg)
 obtain ⟨b5, hb5⟩ : ∃ b, w.heap.size = b := ⟨_, rfl⟩
 rw [hb5] at HK5 HK6 ⊢
 have HB5 := Lh hb5
 clear hb5 hk6 hg
 go_wp2_with (first
   | (refine sel none (.store 28 (.tmp 7) (.tmp 18)) ?_; refine wpList_store_rowA rfl 28 (.tmp 7) (.tmp 18) rfl u1.heap.size (tagA zTag) rfl rfl 28 (tagA zTag) (al_2_0 _ _ _) (by rw [zTag_size]; kernel_rfl) (by rw [zTag_size] <;> kernel_rfl) zTag_one ?_; intro y8 hg8 hb8; have hs8 := blk_keep (al_2_1 u1 (.cells (tagA zTag) 28) (.cells zStC 25)) hg8 (fun e => by have e : u1.heap.size + 1 = u1.heap.size := e; omega))
   | (refine sel none (.store 25 (.tmp 8) (.tmp 19)) ?_; refine wpList_store_rowA rfl 25 (.tmp 8) (.tmp 19) rfl (u1.heap.size + 1) zStC rfl rfl 25 zStC hs8 (by rw [show zStC.size = 3 from rfl]; kernel_rfl) (by rw [show zStC.size = 3 from rfl] <;> kernel_rfl) (by kernel_rfl) ?_; intro w1 hg9 hb9; refine Vm_stop ?_))
 refine HoleV.mk ?_
 have hal := ((((Chg.refl Non u1).alloc (.cells (tagA zTag) 28)).alloc (.cells zStC 25)).then_new hg8 (fun x e => by have e : x = u1.heap.size := e; omega)).then_new hg9 (fun x e => by have e : x = u1.heap.size + 1 := e; omega)
 have HT1 := Lh (blk_keep hb8 hg9 (fun e => by have e : u1.heap.size = u1.heap.size + 1 := e; omega))
 have HS1 := Lh hb9
 replace HK5 := Lh (blk_keep HK5.out hal (fun e => e))
 replace HK6 := Lh (blk_keep HK6.out hal (fun e => e))
 replace HG := Lh (HG.out.then_non hal)
 obtain ⟨c1, hc1⟩ : ∃ b, u1.heap.size = b := ⟨_, rfl⟩
 rw [hc1] at HT1 HS1
 try rw [hc1]
 clear hal hg8 hg9 hb8 hb9 hs8
 go_wp2_with (first
   | (refine sel none (.store 28 (.tmp 3) (.tmp 23)) ?_; refine wpList_store_rowA rfl 28 (.tmp 3) (.tmp 23) rfl b5 (tagA zTag) rfl (by kernel_rfl) 28 (tagA zTag) HK5.out (by kernel_rfl) rfl zTag_one ?_; intro W8 hgW8 hbW8; have hz6 := blk_keep HK6.out hgW8 (fun e => by have e : b5 + 1 = b5 := e; omega))
   | (refine sel none (.store 25 (.tmp 4) (.tmp 24)) ?_; refine wpList_store_rowA rfl 25 (.tmp 4) (.tmp 24) rfl (b5 + 1) zStC rfl rfl 25 zStC hz6 (by kernel_rfl) rfl (by kernel_rfl) ?_; intro W9 hgW9 hbW9; have hz5 := blk_keep hbW8 hgW9 (fun e => by have e : b5 = b5 + 1 := e; omega)))
 exact bodyPost_ret (res_tcct Tryz.results15 _ _ b5 (b5 + 1) 28 25 _ _ (0, 0) (0, 0) _ _ (.int .i64 0) (.int .i64 60) rfl rfl rfl rfl hz5 hbW9 Tryz.underlying28 rfl (by kernel_rfl) Tryz.underlying25 rfl (by kernel_rfl)) rfl ⟨rfl, ((HG.out.then_new hgW8 (fun x e => by have e : x = b5 := e; have := HB5.out; omega)).then_new hgW9 (fun x e => by have e : x = b5 + 1 := e; have := HB5.out; omega))⟩
theorem r25Get_up (B p q : Nat) (E : Rk) (w : World) (h : IsRk B p q w E) (hd : E.down = false) (hl : E.l.length = 323) :
  Calls Tryz.prog 15 #[.pointer (some ⟨p, 0, none⟩)] w (One25 (rKGet E) 250 w) := by
 have HO := Lh (fun (i : Nat) (hi : i < 2) W (hg : Chg Non w W) => r25one_up B p q E i W (h.non hg) hd hl hi)
 clear h hd hl
 go_enter Tryz.func15, Tryz.ntmps15
 go_wp2_with fail
 refine (HO.out 0 (by omega) _ (((Chg.refl Non w).alloc _).alloc _)).mono ?_
 rintro e u1 hone
 obtain ⟨n1, X1, S1, rfl, ht1, hg⟩ := hone.tel
 have HTel1 := Lh (ht1.base (B' := w.heap.size + 2) (by simp))
 have HX1 := Lh (And.intro ht1.xs (And.intro ht1.x1 (And.intro ht1.ss ht1.s1)))
 have HBC1 := Lh (show w.heap.size + 2 ≤ u1.heap.size by have := hg.size; simp at this; omega)
 clear ht1 hone
 have HK5 : Hid (u1.heap[w.heap.size]? = some (.cells (tagA zTag) 28 (0, 0))) := Lh (blk_keep (blk_new w (.cells (tagA zTag) 28)) (((Chg.refl Non _).alloc (.cells zStC 25)).then_non hg) (fun e => e))
 have hk6 : u1.heap[w.heap.size + 1]? = some (.cells zStC 25 (0, 0)) := by
  have h := blk_keep (blk_new (w.alloc (.cells (tagA zTag) 28)) (.cells zStC 25)) hg (fun e => e)
  rw [show (w.alloc (.cells (tagA zTag) 28)).heap.size = w.heap.size + 1 by simp] at h
  exact h
 have HK6 := Lh hk6
 have HG : Hid (Chg Non w u1) := Lh ((((Chg.refl Non w).alloc (.cells (tagA zTag) 28)).alloc (.cells zStC 25)).then_non hg)
 obtain ⟨b5, hb5⟩ : ∃ b, w.heap.size = b := ⟨_, rfl⟩
 rw [hb5] at HK5 HK6 HBC1 HTel1 ⊢
 have HB5 := Lh hb5
 clear hb5 hk6 hg
 go_wp2_with (first
   | (refine sel none (.store 28 (.tmp 7) (.tmp 18)) ?_; refine wpList_store_rowA rfl 28 (.tmp 7) (.tmp 18) rfl u1.heap.size X1 rfl rfl 28 (tagA zTag) (al_2_0 _ _ _) (by rw [HX1.out.1]; kernel_rfl) (by rw [HX1.out.1] <;> kernel_rfl) HX1.out.2.1 ?_; intro y8 hg8 hb8; have hs8 := blk_keep (al_2_1 u1 (.cells (tagA zTag) 28) (.cells zStC 25)) hg8 (fun e => by have e : u1.heap.size + 1 = u1.heap.size := e; omega))
   | (refine sel none (.store 25 (.tmp 8) (.tmp 19)) ?_; refine wpList_store_rowA rfl 25 (.tmp 8) (.tmp 19) rfl (u1.heap.size + 1) S1 rfl rfl 25 zStC hs8 (by rw [HX1.out.2.2.1]; kernel_rfl) (by rw [HX1.out.2.2.1] <;> kernel_rfl) HX1.out.2.2.2 ?_; intro w1 hg9 hb9; refine Vm_stop ?_))
 refine HoleV.mk ?_
 have hal := ((((Chg.refl Non u1).alloc (.cells (tagA zTag) 28)).alloc (.cells zStC 25)).then_new hg8 (fun x e => by have e : x = u1.heap.size := e; omega)).then_new hg9 (fun x e => by have e : x = u1.heap.size + 1 := e; omega)
 have HT1 := Lh (blk_keep hb8 hg9 (fun e => by have e : u1.heap.size = u1.heap.size + 1 := e; omega))
 have HS1 := Lh hb9
 replace HK5 := Lh (blk_keep HK5.out hal (fun e => e))
 replace HK6 := Lh (blk_keep HK6.out hal (fun e => e))
 replace HG := Lh (HG.out.then_non hal)
 obtain ⟨c1, hc1⟩ : ∃ b, u1.heap.size = b := ⟨_, rfl⟩
 rw [hc1] at HT1 HS1
 try rw [hc1]
 replace HTel1 := Lh (HTel1.out.non hal)
 have hw1s : b5 + 2 ≤ w1.heap.size := by have := hal.size; have := HBC1.out; omega
 clear hal hg8 hg9 hb8 hb9 hs8
 have HO2 := Lh (HO.out 1 (by omega) w1 HG.out)
 go_wp2_with fail
 refine HO2.out.mono ?_
 rintro e u2 hone
 obtain ⟨n2, X2, S2, rfl, ht2, hg⟩ := hone.tel
 have HTel2 := Lh (ht2.base hw1s)
 have HX2 := Lh (And.intro ht2.xs (And.intro ht2.x1 (And.intro ht2.ss ht2.s1)))
 replace HTel1 := Lh (HTel1.out.non hg)
 replace HT1 := Lh (blk_keep HT1.out hg (fun e => e))
 replace HS1 := Lh (blk_keep HS1.out hg (fun e => e))
 replace HK5 := Lh (blk_keep HK5.out hg (fun e => e))
 replace HK6 := Lh (blk_keep HK6.out hg (fun e => e))
 have hcb1 := HG.out.size
 have hcw1 := blk_lt HS1.out
 replace HG := Lh (HG.out.then_non hg)
 clear ht2 hg hone HO2
 go_wp2_with (first
   | (refine sel none (.store 28 (.tmp 11) (.tmp 30)) ?_; refine wpList_store_rowA rfl 28 (.tmp 11) (.tmp 30) rfl u2.heap.size X2 rfl rfl 28 (tagA zTag) (al_2_0 _ _ _) (by rw [HX2.out.1]; kernel_rfl) (by rw [HX2.out.1] <;> kernel_rfl) HX2.out.2.1 ?_; intro y8 hg8 hb8; have hs8 := blk_keep (al_2_1 u2 (.cells (tagA zTag) 28) (.cells zStC 25)) hg8 (fun e => by have e : u2.heap.size + 1 = u2.heap.size := e; omega))
   | (refine sel none (.store 25 (.tmp 12) (.tmp 31)) ?_; refine wpList_store_rowA rfl 25 (.tmp 12) (.tmp 31) rfl (u2.heap.size + 1) S2 rfl rfl 25 zStC hs8 (by rw [HX2.out.2.2.1]; kernel_rfl) (by rw [HX2.out.2.2.1] <;> kernel_rfl) HX2.out.2.2.2 ?_; intro w2 hg9 hb9; refine Vm_stop ?_))
 refine HoleV.mk ?_
 have hal := ((((Chg.refl Non u2).alloc (.cells (tagA zTag) 28)).alloc (.cells zStC 25)).then_new hg8 (fun x e => by have e : x = u2.heap.size := e; omega)).then_new hg9 (fun x e => by have e : x = u2.heap.size + 1 := e; omega)
 have HT2 := Lh (blk_keep hb8 hg9 (fun e => by have e : u2.heap.size = u2.heap.size + 1 := e; omega))
 have HS2 := Lh hb9
 replace HK5 := Lh (blk_keep HK5.out hal (fun e => e))
 replace HK6 := Lh (blk_keep HK6.out hal (fun e => e))
 replace HG := Lh (HG.out.then_non hal)
 obtain ⟨c2, hc2⟩ : ∃ b, u2.heap.size = b := ⟨_, rfl⟩
 rw [hc2] at HT2 HS2
 try rw [hc2]
 replace HTel1 := Lh (HTel1.out.non hal)
 replace HTel2 := Lh (HTel2.out.non hal)
 replace HT1 := Lh (blk_keep HT1.out hal (fun e => e))
 replace HS1 := Lh (blk_keep HS1.out hal (fun e => e))
 clear hal hg8 hg9 hb8 hb9 hs8
 have hbc1 := HBC1.out
 have hge1 := HTel1.out.ge
 have hge2 := HTel2.out.ge
 have hkn1 := HTel1.out.num
 have hkn2 := HTel2.out.num
 have hNn : ∀ r : Option (Int × List UInt8 × Sta), (∀ x, r = some x → 1 ≤ x.1) → kNum r = 0 → r = none := by
  intro r hr h
  cases r with
  | none => rfl
  | some x => have h1 := hr x rfl; have h : x.1 = 0 := h; omega
 have hpr : ∀ p x, rKAt E p = some x → x.1 % 2 = (p : Int) ∧ 1 ≤ x.1 := fun p x h => rKAt_num h
 by_cases h0 : n1 = 0 ∧ n2 = 0
 case pos =>
  obtain ⟨rfl, rfl⟩ := h0
  have HNo := Lh (show rKGet E = none by
    unfold rKGet
    rw [hNn _ (fun x h => (hpr 0 x h).2) hkn1.symm, hNn _ (fun x h => (hpr 1 x h).2) hkn2.symm]
    rfl)
  have d1 : ((0 : Int) == 0) = true := by decide
  clear hNn hpr hkn1 hkn2
  go_wp2_with (first
    | (refine sel none (.store 28 (.tmp 3) (.tmp 44)) ?_; refine wpList_store_rowA rfl 28 (.tmp 3) (.tmp 44) rfl b5 (tagA zTag) rfl (by kernel_rfl) 28 (tagA zTag) HK5.out (by kernel_rfl) rfl zTag_one ?_; intro W8 hgW8 hbW8; have hz6 := blk_keep HK6.out hgW8 (fun e => by have e : b5 + 1 = b5 := e; omega))
    | (refine sel none (.store 25 (.tmp 4) (.tmp 45)) ?_; refine wpList_store_rowA rfl 25 (.tmp 4) (.tmp 45) rfl (b5 + 1) zStC rfl rfl 25 zStC hz6 (by kernel_rfl) rfl (by kernel_rfl) ?_; intro W9 hgW9 hbW9; have hz5 := blk_keep hbW8 hgW9 (fun e => by have e : b5 = b5 + 1 := e; omega)))
  exact bodyPost_ret (res_tcct Tryz.results15 _ _ b5 (b5 + 1) 28 25 _ _ (0, 0) (0, 0) _ _ (.int .i64 0) (.int .i64 250) rfl rfl rfl rfl hz5 hbW9 Tryz.underlying28 rfl (by kernel_rfl) Tryz.underlying25 rfl (by kernel_rfl)) rfl ⟨.inl ⟨HNo.out, rfl⟩, ((HG.out.then_new hgW8 (fun x e => by have e : x = b5 := e; have := HB5.out; omega)).then_new hgW9 (fun x e => by have e : x = b5 + 1 := e; have := HB5.out; omega))⟩
 have hd0 : (n1 == 0) = false ∨ ((n1 == 0) = true ∧ (n2 == 0) = false) := by
  by_cases h1 : n1 = 0
  ·refine .inr ⟨by simpa using h1, ?_⟩
   have : n2 ≠ 0 := fun h2 => h0 ⟨h1, h2⟩
   simpa using this
  ·exact .inl (by simpa using h1)
 have HD0 := Lh hd0
 have HKn := Lh (And.intro hkn1 (And.intro hkn2 (And.intro hNn hpr)))
 clear hd0 hkn1 hkn2 hNn hpr
 by_cases hgt : n2 < n1
 case pos =>
  have hgd : decide (n1 > n2) = true := by simpa using hgt
  have hn1 : (n1 == 0) = false := by rw [beq_eq_false_iff_ne]; omega
  obtain ⟨hash, s, vb, vd, hr, hh, hXe, hSe, hst⟩ := HTel1.out.told (by omega)
  have HYes := Lh (show rKGet E = some (n1, hash, s) by
    obtain ⟨k1, k2, _, _⟩ := HKn.out
    unfold rKGet kMax
    rw [if_pos (show 0 < kNum (rKAt E 0) by omega), if_neg (by omega), hr])
  have HXe := Lh hXe
  have HHl := Lh hh
  have HSt := Lh hst
  have HXs := Lh HX1.out.1
  have HX11 := Lh HX1.out.2.1
  have hSsz := HX1.out.2.2.1
  have hS1 := HX1.out.2.2.2
  obtain ⟨A4, cc4, rfl, _⟩ := hst.ps
  obtain ⟨A5, cc5, rfl, _⟩ := hst.qs
  subst hSe
  have HK8 := HT1
  have HbS := HS1
  clear hr hh hXe hst hSsz hS1 HX1 HX2 h0
  go_wp2_with fail
  obtain ⟨V, hV⟩ : ∃ V, V = w2.drew := ⟨_, rfl⟩
  have hnV : Chg Non w2 V := by rw [hV]; exact (Chg.refl Non _).drew
  have HGV := Lh (HG.out.then_non hnV)
  have HV5 := Lh (blk_keep HK5.out hnV (fun e => e))
  have HV6 := Lh (blk_keep HK6.out hnV (fun e => e))
  have HV8 := Lh (range_block (blk_keep HK8.out hnV (fun e => e)))
  have HVS := Lh (range_block (blk_keep HbS.out hnV (fun e => e)))
  replace HSt := Lh (HSt.out.non hnV)
  refine wp_region_held_drew (S := Chg (fun x => x = b5 ∨ x = b5 + 1) V) (by kernel_rfl) (by rw [hV]; exact Chg.refl _ _) (fun hHeld => ?_)
  clear hHeld
  rw [← hV]
  clear hV hnV
  have HS0 : Hid (Chg (fun x => x = b5 ∨ x = b5 + 1) V V) := Lh (Chg.refl _ _)
  refine hp 0 49 (.int .i64 n1) rfl HS0.out ?_
  refine h_load 1 (some 50) 28 (.tmp 7) (c1) 0 X1 _ rfl (by kernel_rfl) (by kernel_rfl) (by kernel_rfl) (by kernel_rfl) (by kernel_rfl) (fun _ _ _ h => h) (by kernel_rfl) (by kernel_rfl) (fun W h => range_keepS HV8.out h (fun e => by rcases e with e | e <;> omega)) Tryz.underlying28 (by kernel_rfl) (by rw [HXs.out]; kernel_rfl) HS0.out ?_
  try simp only [Act.put, sA, sB, sC]
  refine h_load 2 (some 51) 25 (.tmp 8) (c1 + 1) 0 #[.int .i64 s.frames, .slice A4 s.parts.length cc4, .slice A5 s.queues.length cc5] _ rfl (by kernel_rfl) (by kernel_rfl) (by kernel_rfl) (by kernel_rfl) (by kernel_rfl) (fun _ _ _ h => h) (by kernel_rfl) (by kernel_rfl) (fun W h => range_keepS HVS.out h (fun e => by rcases e with e | e <;> omega)) Tryz.underlying25 (by kernel_rfl) (by kernel_rfl) HS0.out ?_
  try simp only [Act.put, sA, sB, sC]
  refine hp 3 2 (.int .i64 n1) rfl HS0.out ?_
  refine h_store 4 28 (.tmp 3) (.tmp 50) b5 X1 (by kernel_rfl) rfl (by kernel_rfl) rfl rfl rfl rfl 28 ⟨_, HV5.out, by rw [HXs.out]; kernel_rfl⟩ (by rw [HXs.out]; kernel_rfl) HX11.out (fun W h _ => h.mono (fun x e => .inl e)) ?_
  intro W8 hgW8 hbW8
  have hz6 := blk_keep HV6.out hgW8 (fun e => by have e : b5 + 1 = b5 := e; omega)
  try simp only [Act.put, sA, sB, sC]
  refine h_store 5 25 (.tmp 4) (.tmp 51) (b5 + 1) #[.int .i64 s.frames, .slice A4 s.parts.length cc4, .slice A5 s.queues.length cc5] (by kernel_rfl) rfl (by kernel_rfl) rfl rfl rfl rfl 25 ⟨_, hz6, rfl⟩ (by kernel_rfl) (by kernel_rfl) (fun W h _ => (hgW8.mono (fun x e => .inl e)).trans_same (h.mono (fun x e => .inr e))) ?_
  intro W9 hgW9 hbW9
  have hz5 := blk_keep hbW8 hgW9 (fun e => by have e : b5 = b5 + 1 := e; omega)
  try simp only [Act.put, sA, sB, sC]
  refine hp 6 5 (.int .i64 0) rfl ((hgW8.mono (fun x e => .inl e)).trans_same (hgW9.mono (fun x e => .inr e))) ?_
  refine hdn ?_ _
  go_wp2_with fail
  have HZ2 := Lh ((hgW8.mono (fun x (e : x = b5) => (.inl e : x = b5 ∨ x = b5 + 1))).trans_same (hgW9.mono (fun x e => .inr e)))
  have HZ := Lh (HGV.out.then_new HZ2.out (fun x e => by have := HB5.out; rcases e with e | e <;> omega))
  refine bodyPost_ret (res_tcct Tryz.results15 _ _ b5 (b5 + 1) 28 25 _ _ (0, 0) (0, 0) _ _ (.int .i64 n1) (.int .i64 0) rfl rfl rfl rfl hz5 hbW9 Tryz.underlying28 rfl (by rw [HXs.out]; kernel_rfl) Tryz.underlying25 rfl (by kernel_rfl)) rfl ?_
  refine ⟨.inr ⟨n1, hash, s, _, _, HYes.out, HHl.out, by omega, by omega, by rw [HXe.out], ?_⟩, HZ.out⟩
  refine (HSt.out.keep HZ2.out (fun b hb e => ?_)).mono (fun b hb => ?_)
  ·have h1 := hb
   unfold From at h1
   rcases e with e | e <;> omega
  ·have h1 := hb
   have := HB5.out
   unfold From at h1 ⊢
   omega
 have hgd : decide (n1 > n2) = false := by simpa using hgt
 obtain ⟨hash, s, vb, vd, hr, hh, hXe, hSe, hst⟩ := HTel2.out.told (by omega)
 have HYes := Lh (show rKGet E = some (n2, hash, s) by
   obtain ⟨k1, k2, hN, hp⟩ := HKn.out
   have hlt : kNum (if 0 < kNum (rKAt E 0) then rKAt E 0 else none) < kNum (rKAt E 1) := by
     split
     · cases h0r : rKAt E 0 with
       | none => show (0 : Int) < _; omega
       | some x =>
         have e1 := (hp 0 x h0r).1
         have e2 := (hp 1 _ hr).1
         have e3 : kNum (rKAt E 0) = x.1 := by rw [h0r]; rfl
         show x.1 < _
         simp only at e2
         omega
     · show (0 : Int) < _
       omega
   unfold rKGet kMax
   rw [if_pos hlt, hr])
 have HXe := Lh hXe
 have HHl := Lh hh
 have HSt := Lh hst
 have HXs := Lh HX2.out.1
 have HX11 := Lh HX2.out.2.1
 obtain ⟨A4, cc4, rfl, _⟩ := hst.ps
 obtain ⟨A5, cc5, rfl, _⟩ := hst.qs
 subst hSe
 have HK8 := HT2
 have HbS := HS2
 have hq1 : 1 ≤ n2 := by omega
 clear hr hh hXe hst HX1 HX2 h0
 rcases HD0.out with hd | ⟨hd, hd2⟩
 ·go_wp2_with fail
  obtain ⟨V, hV⟩ : ∃ V, V = w2.drew := ⟨_, rfl⟩
  have hnV : Chg Non w2 V := by rw [hV]; exact (Chg.refl Non _).drew
  have HGV := Lh (HG.out.then_non hnV)
  have HV5 := Lh (blk_keep HK5.out hnV (fun e => e))
  have HV6 := Lh (blk_keep HK6.out hnV (fun e => e))
  have HV8 := Lh (range_block (blk_keep HK8.out hnV (fun e => e)))
  have HVS := Lh (range_block (blk_keep HbS.out hnV (fun e => e)))
  replace HSt := Lh (HSt.out.non hnV)
  refine wp_region_held_drew (S := Chg (fun x => x = b5 ∨ x = b5 + 1) V) (by kernel_rfl) (by rw [hV]; exact Chg.refl _ _) (fun hHeld => ?_)
  clear hHeld
  rw [← hV]
  clear hV hnV
  have HS0 : Hid (Chg (fun x => x = b5 ∨ x = b5 + 1) V V) := Lh (Chg.refl _ _)
  refine hp 0 52 (.int .i64 n2) rfl HS0.out ?_
  refine h_load 1 (some 53) 28 (.tmp 11) (c2) 0 X2 _ rfl (by kernel_rfl) (by kernel_rfl) (by kernel_rfl) (by kernel_rfl) (by kernel_rfl) (fun _ _ _ h => h) (by kernel_rfl) (by kernel_rfl) (fun W h => range_keepS HV8.out h (fun e => by rcases e with e | e <;> omega)) Tryz.underlying28 (by kernel_rfl) (by rw [HXs.out]; kernel_rfl) HS0.out ?_
  try simp only [Act.put, sA, sB, sC]
  refine h_load 2 (some 54) 25 (.tmp 12) (c2 + 1) 0 #[.int .i64 s.frames, .slice A4 s.parts.length cc4, .slice A5 s.queues.length cc5] _ rfl (by kernel_rfl) (by kernel_rfl) (by kernel_rfl) (by kernel_rfl) (by kernel_rfl) (fun _ _ _ h => h) (by kernel_rfl) (by kernel_rfl) (fun W h => range_keepS HVS.out h (fun e => by rcases e with e | e <;> omega)) Tryz.underlying25 (by kernel_rfl) (by kernel_rfl) HS0.out ?_
  try simp only [Act.put, sA, sB, sC]
  refine hp 3 2 (.int .i64 n2) rfl HS0.out ?_
  refine h_store 4 28 (.tmp 3) (.tmp 53) b5 X2 (by kernel_rfl) rfl (by kernel_rfl) rfl rfl rfl rfl 28 ⟨_, HV5.out, by rw [HXs.out]; kernel_rfl⟩ (by rw [HXs.out]; kernel_rfl) HX11.out (fun W h _ => h.mono (fun x e => .inl e)) ?_
  intro W8 hgW8 hbW8
  have hz6 := blk_keep HV6.out hgW8 (fun e => by have e : b5 + 1 = b5 := e; omega)
  try simp only [Act.put, sA, sB, sC]
  refine h_store 5 25 (.tmp 4) (.tmp 54) (b5 + 1) #[.int .i64 s.frames, .slice A4 s.parts.length cc4, .slice A5 s.queues.length cc5] (by kernel_rfl) rfl (by kernel_rfl) rfl rfl rfl rfl 25 ⟨_, hz6, rfl⟩ (by kernel_rfl) (by kernel_rfl) (fun W h _ => (hgW8.mono (fun x e => .inl e)).trans_same (h.mono (fun x e => .inr e))) ?_
  intro W9 hgW9 hbW9
  have hz5 := blk_keep hbW8 hgW9 (fun e => by have e : b5 = b5 + 1 := e; omega)
  try simp only [Act.put, sA, sB, sC]
  refine hp 6 5 (.int .i64 0) rfl ((hgW8.mono (fun x e => .inl e)).trans_same (hgW9.mono (fun x e => .inr e))) ?_
  refine hdn ?_ _
  go_wp2_with fail
  have HZ2 := Lh ((hgW8.mono (fun x (e : x = b5) => (.inl e : x = b5 ∨ x = b5 + 1))).trans_same (hgW9.mono (fun x e => .inr e)))
  have HZ := Lh (HGV.out.then_new HZ2.out (fun x e => by have := HB5.out; rcases e with e | e <;> omega))
  refine bodyPost_ret (res_tcct Tryz.results15 _ _ b5 (b5 + 1) 28 25 _ _ (0, 0) (0, 0) _ _ (.int .i64 n2) (.int .i64 0) rfl rfl rfl rfl hz5 hbW9 Tryz.underlying28 rfl (by rw [HXs.out]; kernel_rfl) Tryz.underlying25 rfl (by kernel_rfl)) rfl ?_
  refine ⟨.inr ⟨n2, hash, s, _, _, HYes.out, HHl.out, by omega, by omega, by rw [HXe.out], ?_⟩, HZ.out⟩
  refine (HSt.out.keep HZ2.out (fun b hb e => ?_)).mono (fun b hb => ?_)
  ·have h1 := hb
   unfold From at h1
   rcases e with e | e <;> omega
  ·have h1 := hb
   have := HB5.out
   unfold From at h1 ⊢
   omega
 ·go_wp2_with fail
  obtain ⟨V, hV⟩ : ∃ V, V = w2.drew := ⟨_, rfl⟩
  have hnV : Chg Non w2 V := by rw [hV]; exact (Chg.refl Non _).drew
  have HGV := Lh (HG.out.then_non hnV)
  have HV5 := Lh (blk_keep HK5.out hnV (fun e => e))
  have HV6 := Lh (blk_keep HK6.out hnV (fun e => e))
  have HV8 := Lh (range_block (blk_keep HK8.out hnV (fun e => e)))
  have HVS := Lh (range_block (blk_keep HbS.out hnV (fun e => e)))
  replace HSt := Lh (HSt.out.non hnV)
  refine wp_region_held_drew (S := Chg (fun x => x = b5 ∨ x = b5 + 1) V) (by kernel_rfl) (by rw [hV]; exact Chg.refl _ _) (fun hHeld => ?_)
  clear hHeld
  rw [← hV]
  clear hV hnV
  have HS0 : Hid (Chg (fun x => x = b5 ∨ x = b5 + 1) V V) := Lh (Chg.refl _ _)
  refine hp 0 52 (.int .i64 n2) rfl HS0.out ?_
  refine h_load 1 (some 53) 28 (.tmp 11) (c2) 0 X2 _ rfl (by kernel_rfl) (by kernel_rfl) (by kernel_rfl) (by kernel_rfl) (by kernel_rfl) (fun _ _ _ h => h) (by kernel_rfl) (by kernel_rfl) (fun W h => range_keepS HV8.out h (fun e => by rcases e with e | e <;> omega)) Tryz.underlying28 (by kernel_rfl) (by rw [HXs.out]; kernel_rfl) HS0.out ?_
  try simp only [Act.put, sA, sB, sC]
  refine h_load 2 (some 54) 25 (.tmp 12) (c2 + 1) 0 #[.int .i64 s.frames, .slice A4 s.parts.length cc4, .slice A5 s.queues.length cc5] _ rfl (by kernel_rfl) (by kernel_rfl) (by kernel_rfl) (by kernel_rfl) (by kernel_rfl) (fun _ _ _ h => h) (by kernel_rfl) (by kernel_rfl) (fun W h => range_keepS HVS.out h (fun e => by rcases e with e | e <;> omega)) Tryz.underlying25 (by kernel_rfl) (by kernel_rfl) HS0.out ?_
  try simp only [Act.put, sA, sB, sC]
  refine hp 3 2 (.int .i64 n2) rfl HS0.out ?_
  refine h_store 4 28 (.tmp 3) (.tmp 53) b5 X2 (by kernel_rfl) rfl (by kernel_rfl) rfl rfl rfl rfl 28 ⟨_, HV5.out, by rw [HXs.out]; kernel_rfl⟩ (by rw [HXs.out]; kernel_rfl) HX11.out (fun W h _ => h.mono (fun x e => .inl e)) ?_
  intro W8 hgW8 hbW8
  have hz6 := blk_keep HV6.out hgW8 (fun e => by have e : b5 + 1 = b5 := e; omega)
  try simp only [Act.put, sA, sB, sC]
  refine h_store 5 25 (.tmp 4) (.tmp 54) (b5 + 1) #[.int .i64 s.frames, .slice A4 s.parts.length cc4, .slice A5 s.queues.length cc5] (by kernel_rfl) rfl (by kernel_rfl) rfl rfl rfl rfl 25 ⟨_, hz6, rfl⟩ (by kernel_rfl) (by kernel_rfl) (fun W h _ => (hgW8.mono (fun x e => .inl e)).trans_same (h.mono (fun x e => .inr e))) ?_
  intro W9 hgW9 hbW9
  have hz5 := blk_keep hbW8 hgW9 (fun e => by have e : b5 = b5 + 1 := e; omega)
  try simp only [Act.put, sA, sB, sC]
  refine hp 6 5 (.int .i64 0) rfl ((hgW8.mono (fun x e => .inl e)).trans_same (hgW9.mono (fun x e => .inr e))) ?_
  refine hdn ?_ _
  go_wp2_with fail
  have HZ2 := Lh ((hgW8.mono (fun x (e : x = b5) => (.inl e : x = b5 ∨ x = b5 + 1))).trans_same (hgW9.mono (fun x e => .inr e)))
  have HZ := Lh (HGV.out.then_new HZ2.out (fun x e => by have := HB5.out; rcases e with e | e <;> omega))
  refine bodyPost_ret (res_tcct Tryz.results15 _ _ b5 (b5 + 1) 28 25 _ _ (0, 0) (0, 0) _ _ (.int .i64 n2) (.int .i64 0) rfl rfl rfl rfl hz5 hbW9 Tryz.underlying28 rfl (by rw [HXs.out]; kernel_rfl) Tryz.underlying25 rfl (by kernel_rfl)) rfl ?_
  refine ⟨.inr ⟨n2, hash, s, _, _, HYes.out, HHl.out, by omega, by omega, by rw [HXe.out], ?_⟩, HZ.out⟩
  refine (HSt.out.keep HZ2.out (fun b hb e => ?_)).mono (fun b hb => ?_)
  ·have h1 := hb
   unfold From at h1
   rcases e with e | e <;> omega
  ·have h1 := hb
   have := HB5.out
   unfold From at h1 ⊢
   omega
end
end Go.Proofs.YtkgnlobabknkcaaGreat
