/- CheckPlays, part 21 of 27: contracts of the functions that it reaches, and the laws that they need, merged and shortened (from my texts XR25p, XR21p, XR21o). -/
import Derived.Test.YtkgnlobabknkcaaGreatMgCheckPlaysA
import Derived.Test.YtkgnlobabknkcaaGreatMgCheckPlaysH
import Derived.Test.YtkgnlobabknkcaaGreatMgCheckPlaysI
import Derived.Test.YtkgnlobabknkcaaGreatMgCheckPlaysK
import Derived.Test.YtkgnlobabknkcaaGreatMgCheckPlaysQ
import Derived.Test.YtkgnlobabknkcaaGreatMgCheckPlaysT
namespace Go.Proofs.YtkgnlobabknkcaaGreat
set_option linter.unusedVariables false
set_option linter.unusedSimpArgs false
set_option maxHeartbeats 8000000
set_option maxRecDepth 100000
section
open Go.RowKit
def rkW (s : Nat) (blk : Nat → List UInt8) (E : Rk) : Nat → Rk × Int
 | 0 => (E, 0)
 | k + 1 => if (rkW s blk E k).2 = 0 then (rkW s blk E k).1.write ((s + k : Nat) : Int) (blk k) else rkW s blk E k
def rkPut (p : Nat) (blk : Nat → List UInt8) (h : List UInt8) (E : Rk) : Rk × Int :=
 let a := rkW (132 + 96 * p) blk E 95
 if a.2 ≠ 0 then a else
 let b := a.1.flush
 if b.2 ≠ 0 then b else
 let c := b.1.write ((131 + 96 * p : Nat) : Int) h
 if c.2 ≠ 0 then c else c.1.flush
theorem rkW_stop {s : Nat} {blk : Nat → List UInt8} {E : Rk} {k : Nat} (h : (rkW s blk E k).2 ≠ 0) : ∀ j, rkW s blk E (k + j) = rkW s blk E k
 | 0 => rfl
 | j + 1 => by
  have ih := rkW_stop h j
  show rkW s blk E (k + j + 1) = _
  rw [rkW, ih, if_neg h]
theorem rkW_go {s : Nat} {blk : Nat → List UInt8} {E : Rk} {k : Nat} (h : (rkW s blk E k).2 = 0) : rkW s blk E (k + 1) = (rkW s blk E k).1.write ((s + k : Nat) : Int) (blk k) := by
 rw [rkW, if_pos h]
theorem r25_fall {E : Rk} (h : E.Sz) (st : List UInt8) : (E.fall st).Sz := ⟨by simp [Rk.fall], by simp [Rk.fall], by show (Rk.fallL st 0 E.l).length ≤ 1024; rw [fallL_len]; exact h.len⟩
theorem r25_falls {E : Rk} (h : E.Sz) : E.falls.1.Sz := by
 unfold Rk.falls
 repeat' split
 all_goals first
  | exact r25_fall h _
  | exact h
  | exact ⟨h.stay, by have := h.left; simp only; omega, h.len⟩
theorem r25_write {E : Rk} (h : E.Sz) (i : Int) (b : List UInt8) : (E.write i b).1.Sz := by
 have hf := r25_falls h
 unfold Rk.write
 repeat' split
 all_goals first
  | exact h
  | exact hf
  | exact ⟨hf.stay, hf.left, by simp only [List.length_set]; exact hf.len⟩
theorem r25_flush {E : Rk} (h : E.Sz) : E.flush.1.Sz := by
 have hf := r25_falls h
 unfold Rk.flush
 repeat' split
 all_goals first
  | exact h
  | exact hf
  | exact ⟨hf.stay, hf.left, by simp only [Rk.flushL, List.length_map]; exact hf.len⟩
theorem rkW_sz {s : Nat} {blk : Nat → List UInt8} {E : Rk} (h : E.Sz) : ∀ k, (rkW s blk E k).1.Sz
 | 0 => h
 | k + 1 => by
  rw [rkW]
  split
  ·exact r25_write (rkW_sz h k) _ _
  ·exact rkW_sz h k
def rPutR (E : Rk) (n : Int) (hash : List UInt8) (s : Sta) : Rk × Int := if n < 1 ∨ mayS s = false then (E, 2) else rkPut (plc n) (kBlkN (formS s)) (sealL 3 (tiOf n hash (formS s)).form) E
theorem rCatO (A1 : Option Addr) (l1 : List UInt8) (c1 : Nat) (A2 : Option Addr) (l2 : List UInt8) (c2 : Nat) (w : World) (h1 : Rd w A1 l1) (h2 : Rd w A2 l2) (hl : l1.length + l2.length ≤ 1000000) :
  Calls Tryz.prog 100 #[.slice A1 l1.length c1, .slice A2 l2.length c2] w (RetO w (l1 ++ l2)) := by
 have H1 := Lh h1
 have H2 := Lh h2
 clear h1 h2
 go_enter Tryz.func100, Tryz.ntmps100
 go_wp2_with fail
 go_loopw [5, 6] (fun v i wr => ∃ k : Nat, k ≤ l1.length ∧ i = .int .i64 k ∧ OwnB w.heap.size wr v (l1.take k) ∧ Chg Non w wr) (fun _ i _ => l1.length - (intOf i).toNat)
 case atStart => exact ⟨0, by omega, rfl, OwnB.nil _ _, Chg.refl _ _⟩
 case round =>
  obtain ⟨k, hk, rfl, hO, hC⟩ := hrel
  have HO := Lh hO
  have HC := Lh hC
  clear hO hC
  by_cases hlt : k < l1.length
  ·obtain ⟨b, o, rfl, _, hcell⟩ := (H1.out.non HC.out).at_ (by omega)
   have hk1 := hcell k hlt
   have hlt' : decide ((k : Int) < (l1.length : Int)) = true := by simpa using hlt
   clear hcell
   go_wp2_with (first
     | (refine sel (some 20) (.call { callee := .builtin .append, args := #[.tmp 14, .tmp 19], argTypes := #[29, 29] }) ?_
        refine Hole1.out ?_))
   refine ⟨?_⟩
   refine wpList_snoc rfl (.tmp 14) (.tmp 19) rfl w.heap.size u5 (l1.take k) rfl (HO.out.non ((Chg.refl _ _).alloc _)) wr.heap.size l1[k] rfl (by go_simp) (by simp; omega) (by have := HC.out.size; simp; omega) ?_
   intro v2 w2 hO2 hg2
   have HO2 := Lh hO2
   have HG2 := Lh ((HC.out.alloc _).then_new hg2 (fun x e => e))
   clear hO2 hg2
   go_wp2_with fail
   case roundEnd =>
    refine ⟨⟨k + 1, by omega, by simp, ?_, HG2.out⟩, by simp [intOf]; omega⟩
    rw [← List.take_append_getElem hlt]
    exact HO2.out
  ·obtain rfl : k = l1.length := by omega
   have HO1 : Hid (OwnB w.heap.size wr u5 l1) := Lh (by have := HO.out; rwa [List.take_length] at this)
   go_wp2_with fail
   clear HO
   go_loopw [5, 7] (fun v i wr => ∃ k : Nat, k ≤ l2.length ∧ i = .int .i64 k ∧ OwnB w.heap.size wr v (l1 ++ l2.take k) ∧ Chg Non w wr) (fun _ i _ => l2.length - (intOf i).toNat)
   case atStart => exact ⟨0, by omega, rfl, by rw [List.take_zero, List.append_nil]; exact HO1.out, HC.out⟩
   case round =>
    obtain ⟨k, hk, rfl, hO, hC⟩ := hrel
    have HO := Lh hO
    have HC := Lh hC
    clear hO hC
    by_cases hlt : k < l2.length
    ·obtain ⟨b, o, rfl, _, hcell⟩ := (H2.out.non HC.out).at_ (by omega)
     have hk1 := hcell k hlt
     have hlt' : decide ((k : Int) < (l2.length : Int)) = true := by simpa using hlt
     clear hcell
     go_wp2_with (first
       | (refine sel (some 33) (.call { callee := .builtin .append, args := #[.tmp 27, .tmp 32], argTypes := #[29, 29] }) ?_
          refine Hole1.out ?_))
     refine ⟨?_⟩
     refine wpList_snoc rfl (.tmp 27) (.tmp 32) rfl w.heap.size u5 (l1 ++ l2.take k) rfl (HO.out.non ((Chg.refl _ _).alloc _)) wr.heap.size l2[k] rfl (by go_simp) (by simp; omega) (by have := HC.out.size; simp; omega) ?_
     intro v2 w2 hO2 hg2
     have HO2 := Lh hO2
     have HG2 := Lh ((HC.out.alloc _).then_new hg2 (fun x e => e))
     clear hO2 hg2
     go_wp2_with fail
     case roundEnd =>
      refine ⟨⟨k + 1, by omega, by simp, ?_, HG2.out⟩, by simp [intOf]; omega⟩
      rw [← List.take_append_getElem hlt, ← List.append_assoc]
      exact HO2.out
    ·obtain rfl : k = l2.length := by omega
     have HO3 := Lh (by have := HO.out; rwa [List.take_length] at this)
     go_wp2_with fail
     go_ret
     exact ⟨_, rfl, HO3.out, HC.out⟩
theorem rCopyO (A : Option Addr) (l : List UInt8) (c : Nat) (w : World) (h : Rd w A l) (hl : l.length ≤ 1000000) :
  Calls Tryz.prog 54 #[.slice A l.length c] w (RetO w l) := by
 have HC := Lh (fun W (hg : Chg Non w W) => rCatO none [] 0 A l c W (Rd.nil _ _) (h.non hg) (by simpa using hl))
 clear h
 go_enter Tryz.func54, Tryz.ntmps54
 go_wp2_with fail
 refine (HC.out _ (Chg.refl _ _)).mono ?_
 rintro e u ⟨v, rfl, h1, h2⟩
 have HO := Lh (show OwnB w.heap.size u v l by simpa using h1)
 have HG := Lh h2
 clear h1 h2
 go_wp2_with fail
 go_ret
 exact ⟨_, rfl, HO.out, HG.out⟩
def lenO : Value → Nat
 | .slice _ n _ => n
 | _ => 0
theorem sub_slice (f : List UInt8) (k : Nat) (hk : k < 95) (hf : f.length ≤ 6080) {W : World} {g x : Nat} (h : Rd W (some ⟨g, x, none⟩) (kWhole f)) : Rd W (some ⟨g, x + 64 * k, none⟩) (kBlkN f k) := by
 have e : kBlkN f k = kBlk f k := by unfold kBlkN; rw [if_pos hk]
 rw [e]
 unfold kBlk
 exact (h.drop (64 * k)).take 64
theorem r25Put (I : Nat → Prop) (B p q : Nat) (E : Rk) (n : Int) (hash : List UInt8) (s : Sta) (vb vd : Value) (w : World) (h : IsRk B p q w E) (hz : E.Sz) (hs : StaV I w s vb vd) (hI : ∀ b, I b → b < w.heap.size) (hh : hash.length = 32) (hn : I64 n) :
  Calls Tryz.prog 40 #[.pointer (some ⟨p, 0, none⟩), .int .i64 n, .agg (tagA hash), .agg #[.int .i64 s.frames, vb, vd]] w fun e w' =>
   e = .returned (.int .i64 (rPutR E n hash s).2) ∧ IsRk B p q w' (rPutR E n hash s).1 ∧ RChg p q w w' := by
 have hlt := h.lt
 have HI := Lh h
 have HS := Lh hs
 have HZ := Lh hz
 have HH := Lh hh
 have HN := Lh hn
 have HTs := Lh (tagA_size hash hh)
 have HIb := Lh hI
 have HSb : Hid (∀ x ∈ s.parts, x.Bd) := Lh hs.bds
 have HHd := Lh (fun A f c W hr hl => r25Head n hash A f c W hh hr hl)
 obtain ⟨⟨A, c, rfl, hc, hcm, hrp⟩, ⟨A2, c2, rfl, hc2, hcm2, hrq⟩⟩ := hs
 clear hrp hrq h hz hh hn hI
 obtain ⟨XT, hXT⟩ : ∃ X, tagA hash = X := ⟨_, rfl⟩
 rw [hXT] at HTs ⊢
 simp only [hXT] at HHd
 clear hXT
 obtain ⟨V, hV⟩ : ∃ V, (w.alloc (.cells XT 28)).alloc (.cells #[.int .i64 s.frames, .slice A s.parts.length c, .slice A2 s.queues.length c2] 25) = V := ⟨_, rfl⟩
 have hgV : Chg Non w V := by rw [← hV]; exact ((Chg.refl Non w).alloc _).alloc _
 have k6 := blk_keep (blk_new w (.cells XT 28)) ((Chg.refl Non _).alloc (.cells #[.int .i64 s.frames, .slice A s.parts.length c, .slice A2 s.queues.length c2] 25)) (fun e => e)
 have k7 := blk_new (w.alloc (.cells XT 28)) (.cells #[.int .i64 s.frames, .slice A s.parts.length c, .slice A2 s.queues.length c2] 25)
 have hs1 : (w.alloc (.cells XT 28)).heap.size = w.heap.size + 1 := by simp
 rw [hV] at k6 k7
 rw [hs1] at k7
 have HG := Lh hgV
 have K6 := Lh k6
 have K7 := Lh k7
 have d0 := blk_cell k7 0 (v := .int .i64 s.frames) rfl
 have d1 := blk_cell k7 1 (v := .slice A s.parts.length c) rfl
 have d2 := blk_cell k7 2 (v := .slice A2 s.queues.length c2) rfl
 have hl7 := blk_lt k7
 have HM := Lh (r21May I s (.slice A s.parts.length c) (.slice A2 s.queues.length c2) V (HS.out.non hgV))
 have HF := Lh (fun W (hg : Chg Non w W) hL => r21Form I s (.slice A s.parts.length c) (.slice A2 s.queues.length c2) W (HS.out.non hg) (fun b hb => Nat.lt_of_lt_of_le (HIb.out b hb) hg.size) hL)
 clear hgV k6 k7 hs1
 by_cases hn1 : n < 1
 ·have hnd : decide (n < 1) = true := by rw [decide_eq_true_eq]; omega
  have HR : Hid (rPutR E n hash s = (E, 2)) := Lh (by unfold rPutR; rw [if_pos (.inl hn1)])
  rw [HR.out]
  clear hn1 HHd HF HM
  go_enter Tryz.func40, Tryz.ntmps40
  go_wp2_with fail
  try rw [hV]
  go_ret
  exact ⟨rfl, HI.out.non HG.out, RChg.of_non HG.out⟩
 have hnd : decide (n < 1) = false := by rw [decide_eq_false_iff_not]; omega
 cases hm : mayS s with
 | false =>
  have HR : Hid (rPutR E n hash s = (E, 2)) := Lh (by unfold rPutR; rw [if_pos (.inr hm)])
  rw [HR.out]
  rw [hm] at HM
  clear hn1 HHd HF hm
  go_enter Tryz.func40, Tryz.ntmps40
  go_wp2_with fail
  try rw [hV]
  refine HM.out.mono ?_
  rintro e u ⟨rfl, hg⟩
  have HG2 := Lh (HG.out.then_non hg)
  clear hg
  go_wp2_with fail
  go_ret
  exact ⟨rfl, HI.out.non HG2.out, RChg.of_non HG2.out⟩
 | true =>
  have HR : Hid (rPutR E n hash s = rkPut (plc n) (kBlkN (formS s)) (sealL 3 (tiOf n hash (formS s)).form) E) := Lh (by unfold rPutR; rw [if_neg (by rw [hm]; simp; omega)])
  have HFl := Lh (formS_len (stBd_may hm HSb.out))
  rw [hm] at HM
  rw [HR.out]
  have htm : n.tmod 2 = (plc n : Int) := by rw [Int.tmod_eq_emod_of_nonneg (by omega)]; exact plc_mod n
  have HPl := Lh (plc_lt n)
  have HAt := Lh (fun W => r25at n (plc n) W htm (plc_lt n))
  obtain ⟨pl, hpl⟩ : ∃ x, plc n = x := ⟨_, rfl⟩
  rw [hpl] at HAt HPl ⊢
  obtain ⟨f, hf⟩ : ∃ f, formS s = f := ⟨_, rfl⟩
  rw [hf] at HFl ⊢
  simp only [hf] at HF
  obtain ⟨SL, hSL⟩ : ∃ SL, sealL 3 (tiOf n hash f).form = SL := ⟨_, rfl⟩
  have hsll : SL.length = 64 := by rw [← hSL]; exact sealL_len' _ (by rw [tiOf_len HH.out]; omega)
  have HSL := Lh hSL
  have HSLl := Lh hsll
  rw [hSL]
  clear hpl htm hm HR hf hSL hsll
  go_enter Tryz.func40, Tryz.ntmps40
  go_wp2_with fail
  try rw [hV]
  refine HM.out.mono ?_
  rintro e u ⟨rfl, hg⟩
  have HG2 := Lh (HG.out.then_non hg)
  have HFu := Lh (HF.out u HG2.out (by have := HFl.out.1; omega))
  have K62 := Lh (blk_keep K6.out hg (fun e => e))
  replace d0 := hg.cell_some d0 (fun e => e)
  replace d1 := hg.cell_some d1 (fun e => e)
  replace d2 := hg.cell_some d2 (fun e => e)
  have hl7 := Nat.lt_of_lt_of_le hl7 hg.size
  clear hg HM HF HG K6 K7
  have hfl : f.length ≤ 4684 := HFl.out.1
  go_wp2_with fail
  refine HFu.out.mono ?_
  rintro e u3 ⟨A3, c3, rfl, hfc, hfm, hfo, hg⟩
  have hgt : decide ((f.length : Int) > 6080) = false := by rw [decide_eq_false_iff_not]; omega
  have HG3 := Lh (HG2.out.then_non hg)
  have HF3 := Lh hfo.rd
  have K63 := Lh (blk_keep K62.out hg (fun e => e))
  have HCp := Lh (rCopyO A3 f c3 u3 hfo.rd (by omega))
  clear hg hfo d0 d1 d2 hl7 K62 HG2
  go_wp2_with fail
  refine HCp.out.mono ?_
  rintro e u4 ⟨v4, rfl, ho, hg⟩
  have HO4 := Lh ho
  have HG34 := Lh hg
  clear ho hg
  go_wp2_with fail
  go_loopw [10] (fun v wr => ∃ k : Nat, f.length + k ≤ 6080 ∧ Hid (OwnB u3.heap.size wr v (f ++ List.replicate k 0)) ∧ Hid (Chg Non u3 wr)) (fun v _ => 6080 - lenO v)
  case atStart => exact ⟨0, by omega, by rw [List.replicate_zero, List.append_nil]; exact HO4, HG34⟩
  case round =>
   obtain ⟨k, hk, HO, HC⟩ := hrel
   obtain ⟨Aw, cw, rfl, hcw, hcwm, how⟩ := HO.out.slice
   have hln : (f ++ List.replicate k (0 : UInt8)).length = f.length + k := by simp
   by_cases hlt : f.length + k < 6080
   ·have hltd : decide (((f ++ List.replicate k (0 : UInt8)).length : Int) < 6080) = true := by rw [decide_eq_true_eq, hln]; omega
    clear hcw hcwm how
    go_wp2_with (first
      | (refine sel (some 33) (.call { callee := .builtin .append, args := #[.tmp 31, .tmp 32], argTypes := #[29, 29] }) ?_
         refine Hole1.out ?_))
    refine ⟨?_⟩
    refine wpList_snoc rfl (.tmp 31) (.tmp 32) rfl u3.heap.size _ (f ++ List.replicate k 0) rfl (HO.out.non ((Chg.refl _ _).alloc _)) wr.heap.size 0 rfl (by go_simp) (by rw [hln]; omega) (by have := HC.out.size; simp; omega) ?_
    intro v2 w2 hO2 hg2
    have e2 : f ++ List.replicate k (0 : UInt8) ++ [0] = f ++ List.replicate (k + 1) 0 := by rw [List.append_assoc, ← List.replicate_succ']
    rw [e2] at hO2
    have HO2 := Lh hO2
    have HG2 := Lh ((HC.out.alloc _).then_new hg2 (fun x e => e))
    obtain ⟨Av, cv, rfl, _, _, _⟩ := hO2.slice
    clear hO2 hg2 e2
    go_wp2_with fail
    case roundEnd =>
     refine ⟨⟨k + 1, by omega, by simpa using HO2, HG2⟩, by simp [lenO]; omega⟩
   ·have hkq : k = 6080 - f.length := by omega
    have hWh : f ++ List.replicate k (0 : UInt8) = kWhole f := by unfold kWhole; rw [hkq]
    rw [hWh] at HO hcw how hln
    simp only [hWh]
    have hwl := kWhole_len (f := f) (by omega)
    rw [hwl] at hcw ⊢
    obtain ⟨gA, oA, rfl, hgA, _⟩ := how.rd.at_ (by rw [hwl]; omega)
    have HW := Lh how.rd
    have hgb : u3.heap.size ≤ gA := how.ge (fun e => by rw [e] at hwl; cases hwl)
    have HG4 := Lh (HG3.out.then_non HC.out)
    have HF4 := Lh (HF3.out.non HC.out)
    have K64 := Lh (blk_keep K63.out HC.out (fun e => e))
    have HI4 := Lh (HI.out.non HG4.out)
    have hwsz := HG3.out.size
    have hltd : decide ((6080 : Int) < 6080) = false := by decide
    clear how hln HO HC hkq hWh HF3 K63 HG3 hk hlt HO4 HG34 HCp HFu
    obtain ⟨W4, hW4⟩ : ∃ W, W = wr := ⟨_, rfl⟩
    subst hW4
    clear hwl
    go_wp2_with fail
    go_loopw [11] (fun iv wr => ∃ k : Nat, k ≤ 95 ∧ iv = .int .i64 k ∧ Hid ((rkW (132 + 96 * pl) (kBlkN f) E k).2 = 0) ∧ Hid (IsRk B p q wr (rkW (132 + 96 * pl) (kBlkN f) E k).1) ∧ Hid (RChg p q W4 wr)) (fun iv _ => 95 - (intOf iv).toNat)
    case atStart => exact ⟨0, by omega, rfl, Lh rfl, HI4, Lh (RChg.refl _ _ _)⟩
    case round =>
     obtain ⟨k, hk, rfl, H0, HK, HGk⟩ := hrel
     obtain ⟨wo, hwo⟩ : ∃ W, W = wr := ⟨_, rfl⟩
     subst hwo
     by_cases hlt : k < 95
     ·have hltd : decide ((k : Int) < 95) = true := by rw [decide_eq_true_eq]; omega
      have HGo := Lh (rkW_go H0.out)
      have HSt := Lh (fun e => rkW_stop (s := 132 + 96 * pl) (blk := kBlkN f) (E := E) (k := k + 1) e (94 - k))
      have HKz := Lh (rkW_sz (s := 132 + 96 * pl) (blk := kBlkN f) HZ.out k)
      have hbl := kBlkN_len (f := f) (by omega) k
      obtain ⟨⟨E2, e2⟩, hE2⟩ : ∃ x, rkW (132 + 96 * pl) (kBlkN f) E (k + 1) = x := ⟨_, rfl⟩
      have HE2 := Lh hE2
      rw [hE2] at HGo HSt
      obtain ⟨E1, hE1⟩ : ∃ x, (rkW (132 + 96 * pl) (kBlkN f) E k).1 = x := ⟨_, rfl⟩
      rw [hE1] at HGo HKz HK
      have HWr := Lh (fun W (hW : IsRk B p q W E1) (hr : Rd W (some ⟨gA, oA + 64 * k, none⟩) (kBlkN f k)) cb => rWrite B p q E1 ((132 + 96 * pl + k : Nat) : Int) (some ⟨gA, oA + 64 * k, none⟩) (kBlkN f k) cb W hW HKz.out hr (by rw [hbl]; omega))
      rw [← HGo.out, hbl] at HWr
      simp only at HWr
      have hpl2 := HPl.out
      have HBk : Hid (∀ W, RChg p q wo W → Rd W (some ⟨gA, oA + 64 * k, none⟩) (kBlkN f k)) := Lh (fun W hg => sub_slice f k hlt (by omega) (HW.out.ref (HGk.out.trans_same hg)))
      clear hE2 hE1 hbl
      go_wp2_with fail
      obtain ⟨V, hV⟩ : ∃ V, V = wo.drew := ⟨_, rfl⟩
      have hgV : RChg p q wo V := by rw [hV]; exact (RChg.refl _ _ _).drew
      have HGV := Lh hgV
      have HKV := Lh (HK.out.non (show Chg Non wo V by rw [hV]; exact (Chg.refl Non _).drew))
      refine wp_region_held_drew (S := Chg (RS p q) V) (by kernel_rfl) (by rw [hV]; exact Chg.refl _ _) (fun hHeld => ?_)
      clear hHeld
      rw [← hV]
      clear hV hgV
      have HS0 : Hid (Chg (RS p q) V V) := Lh (Chg.refl _ _)
      refine hp 0 38 (.pointer (some ⟨p, 0, none⟩)) rfl HS0.out ?_
      refine hp 1 39 (.int .i64 n) rfl HS0.out ?_
      refine hp 4 42 (.int .i64 (k : Nat)) rfl HS0.out ?_
      refine hp 6 44 (.slice (some ⟨gA, oA, none⟩) 6080 cw) rfl HS0.out ?_
      refine hp 7 45 (.int .i64 (k : Nat)) rfl HS0.out ?_
      have hw1 : IntKind.i64.wrap (64 * (k : Int)) = 64 * (k : Int) := Go.IntWalk.i64_in _ (by omega)
      have hw2 : IntKind.i64.wrap (64 * (k : Int) + 64) = 64 * (k : Int) + 64 := Go.IntWalk.i64_in _ (by omega)
      refine hp 8 46 (.int .i64 (64 * (k : Int))) rfl HS0.out ?_
      refine hp 9 47 (.int .i64 (k : Nat)) rfl HS0.out ?_
      refine hp 10 48 (.int .i64 (64 * (k : Int))) rfl HS0.out ?_
      refine hp 11 49 (.int .i64 (64 * (k : Int) + 64)) rfl HS0.out ?_
      have ht1 : (64 * (k : Int)).toNat = 64 * k := by omega
      have ht2 : (64 * (k : Int) + 64).toNat = 64 * k + 64 := by omega
      have hc1 : 0 ≤ 64 * (k : Int) + 64 ∧ 64 * (k : Int) + 64 ≤ (cw : Int) := by omega
      have hc2 : 0 ≤ 64 * (k : Int) ∧ 64 * (k : Int) ≤ 64 * (k : Int) + 64 := by omega
      have hc3 : ¬ cw = 64 * k := by omega
      refine hp 12 50 (.slice (some ⟨gA, oA + 64 * k, none⟩) 64 (cw - 64 * k)) rfl HS0.out ?_
      refine h1o 2 rfl ?_
      intro K hK
      go_simp
      go_at_call 88
      refine (HAt.out _).mono ?_
      rintro e u ⟨rfl, rfl⟩
      refine hK.out _ _ HS0.out (fun _ => ?_)
      clear hK K
      try simp only [Act.put, sA, sB, sC]
      have hw3 : IntKind.i64.wrap (131 + 96 * (pl : Int) + 1) = 132 + 96 * (pl : Int) := by rw [Go.IntWalk.i64_in _ (by omega)]; omega
      have hw4 : IntKind.i64.wrap (132 + 96 * (pl : Int) + (k : Int)) = 132 + 96 * (pl : Int) + (k : Int) := Go.IntWalk.i64_in _ (by omega)
      refine hp 3 41 (.int .i64 ((132 + 96 * pl : Nat) : Int)) rfl HS0.out ?_
      refine hp 5 43 (.int .i64 ((132 + 96 * pl + k : Nat) : Int)) rfl HS0.out ?_
      refine h1o 13 rfl ?_
      intro K hK
      go_simp
      go_at_call 46
      refine (HWr.out V HKV.out (HBk.out V HGV.out) _).mono ?_
      rintro e w5 ⟨rfl, hi, hg⟩
      have HI5 := Lh hi
      have HG5 := Lh ((HGk.out.trans_same HGV.out).trans_same hg)
      have HS1 := Lh hg.chg
      clear hi hg
      refine hK.out _ _ HS1.out (fun _ => ?_)
      clear hK K
      try simp only [Act.put, sA, sB, sC]
      refine hp 14 12 (.int .i64 e2) rfl HS1.out ?_
      refine hdn ?_ _
      by_cases h0 : e2 = 0
      ·subst h0
       have hbe : ((0 : Int) != 0) = false := by decide
       go_wp2_with fail
       exact ⟨⟨k + 1, by omega, by simp, Lh (by rw [HE2.out]), Lh (by rw [HE2.out]; exact HI5.out), HG5⟩, by simp [intOf]; omega⟩
      ·have hbe : (e2 != 0) = true := by simpa using h0
       have HSt2 := Lh (HSt.out h0)
       rw [show k + 1 + (94 - k) = 95 by omega] at HSt2
       have HRes : Hid (rkPut pl (kBlkN f) SL E = (E2, e2)) := Lh (by
         unfold rkPut
         simp only [HSt2.out]
         rw [if_pos h0])
       go_wp2_with fail
       go_ret
       rw [HRes.out]
       exact ⟨rfl, HI5.out, RChg.non_then HG4.out HG5.out⟩
     ·obtain rfl : k = 95 := by omega
      have hltd : decide (((95 : Nat) : Int) < 95) = false := by decide
      have HKz := Lh (rkW_sz (s := 132 + 96 * pl) (blk := kBlkN f) HZ.out 95)
      obtain ⟨⟨E1, e1⟩, hE1⟩ : ∃ x, rkW (132 + 96 * pl) (kBlkN f) E 95 = x := ⟨_, rfl⟩
      rw [hE1] at H0 HK HKz
      simp only at H0 HK HKz
      have hP1 : rkPut pl (kBlkN f) SL E = (if E1.flush.2 ≠ 0 then E1.flush else if (E1.flush.1.write ((131 + 96 * pl : Nat) : Int) SL).2 ≠ 0 then E1.flush.1.write ((131 + 96 * pl : Nat) : Int) SL else (E1.flush.1.write ((131 + 96 * pl : Nat) : Int) SL).1.flush) := by
       unfold rkPut
       simp only [hE1]
       rw [if_neg (by rw [H0.out]; simp)]
      have HFz := Lh (r25_flush HKz.out)
      have HFs := Lh (fun W (hW : IsRk B p q W E1) => rFlush B p q E1 W hW HKz.out)
      obtain ⟨⟨E2, e2⟩, hE2⟩ : ∃ x, E1.flush = x := ⟨_, rfl⟩
      rw [hE2] at hP1 HFz HFs
      simp only at hP1 HFz HFs
      have HP1 := Lh hP1
      clear hE1 hE2 hP1
      go_wp2_with fail
      refine (HFs.out _ HK.out).mono ?_
      rintro e w5 ⟨rfl, hi, hg⟩
      have HI5 := Lh hi
      have HG5 := Lh (HGk.out.trans_same hg)
      clear hi hg
      by_cases h0 : e2 = 0
      case neg =>
       have hbe : (e2 == 0) = false := by simpa using h0
       have HRes : Hid (rkPut pl (kBlkN f) SL E = (E2, e2)) := Lh (by rw [HP1.out, if_pos h0])
       go_wp2_with fail
       go_ret
       rw [HRes.out]
       exact ⟨rfl, HI5.out, RChg.non_then HG4.out HG5.out⟩
      subst h0
      have hbe : ((0 : Int) == 0) = true := by decide
      have HWz := Lh (r25_write HFz.out ((131 + 96 * pl : Nat) : Int) SL)
      have HWr := Lh (fun W A9 c9 (hW : IsRk B p q W E2) (hr : Rd W A9 SL) => rWrite B p q E2 ((131 + 96 * pl : Nat) : Int) A9 SL c9 W hW HFz.out hr (by rw [HSLl.out]; omega))
      obtain ⟨⟨E3, e3⟩, hE3⟩ : ∃ x, E2.write ((131 + 96 * pl : Nat) : Int) SL = x := ⟨_, rfl⟩
      have hP2 := HP1.out
      rw [if_neg (by simp), hE3] at hP2
      rw [HSLl.out, hE3] at HWr
      rw [hE3] at HWz
      simp only at HWz hP2 HWr
      have HP2 := Lh hP2
      have HFs := Lh (fun W (hW : IsRk B p q W E3) => rFlush B p q E3 W hW HWz.out)
      obtain ⟨⟨E4, e4⟩, hE4⟩ : ∃ x, E3.flush = x := ⟨_, rfl⟩
      rw [hE4] at HFs HP2
      have hnr : ¬ RS p q w.heap.size := fun e => by
       unfold RS at e
       omega
      have HT5 := Lh (range_keepS (range_block K64.out) HG5.out.chg hnr)
      have HF5 := Lh (HF4.out.ref HG5.out)
      have hpl2 := HPl.out
      clear hE3 hE4 hP2
      go_wp2_with fail
      obtain ⟨V, hV⟩ : ∃ V, V = w5.drew := ⟨_, rfl⟩
      have hnV : Chg Non w5 V := by rw [hV]; exact (Chg.refl Non _).drew
      have HGV := Lh hnV
      refine wp_region_held_drew (S := Chg (RS p q) V) (by kernel_rfl) (by rw [hV]; exact Chg.refl _ _) (fun hHeld => ?_)
      clear hHeld
      rw [← hV]
      clear hV
      have HIV := Lh (HI5.out.non hnV)
      have HTV := Lh (range_keepS HT5.out hnV (fun e => e))
      have HFV := Lh (HF5.out.non hnV)
      have HNr := Lh hnr
      clear hnV hnr
      have HS0 : Hid (Chg (RS p q) V V) := Lh (Chg.refl _ _)
      refine hp 0 59 (.pointer (some ⟨p, 0, none⟩)) rfl HS0.out ?_
      refine hp 1 60 (.int .i64 n) rfl HS0.out ?_
      refine hp 3 62 (.int .i64 n) rfl HS0.out ?_
      refine hp 5 64 (.slice A3 f.length c3) rfl HS0.out ?_
      refine h_load 4 (some 63) 28 (.tmp 6) w.heap.size 0 XT _ rfl (by kernel_rfl) (by kernel_rfl) (by kernel_rfl) (by kernel_rfl) (by kernel_rfl) (fun _ _ _ h => h) (by kernel_rfl) (by kernel_rfl) (fun W h => range_keepS HTV.out h HNr.out) Tryz.underlying28 (by kernel_rfl) (by rw [HTs.out]; kernel_rfl) HS0.out ?_
      try simp only [Act.put, sA, sB, sC]
      refine h1o 2 rfl ?_
      intro K hK
      go_simp
      go_at_call 88
      refine (HAt.out _).mono ?_
      rintro e u ⟨rfl, rfl⟩
      refine hK.out _ _ HS0.out (fun _ => ?_)
      clear hK K
      try simp only [Act.put, sA, sB, sC]
      refine h1o 6 rfl ?_
      intro K hK
      go_simp
      go_at_call 89
      refine (HHd.out A3 f c3 V HFV.out (by omega)).mono ?_
      rintro e u6 ⟨A9, c9, rfl, j1, j2, j3, j4⟩
      rw [HSL.out] at j1 j3
      have HR9 := Lh j3.rd
      have HG9 := Lh j4
      rw [HSL.out, HSLl.out]
      clear j1 j2 j3 j4
      refine hK.out _ _ HG9.out.of_non (fun _ => ?_)
      clear hK K
      try simp only [Act.put, sA, sB, sC]
      refine h1o 7 rfl ?_
      intro K hK
      go_simp
      go_at_call 46
      refine (HWr.out u6 A9 c9 (HIV.out.non HG9.out) HR9.out).mono ?_
      rintro e w6 ⟨rfl, hi, hg⟩
      have HI6 := Lh hi
      have HG6 := Lh (((HG5.out.then_non HGV.out).then_non HG9.out).trans_same hg)
      have HS1 : Hid (Chg (RS p q) V w6) := Lh (HG9.out.non_then hg.chg)
      clear hi hg
      refine hK.out _ _ HS1.out (fun _ => ?_)
      clear hK K
      try simp only [Act.put, sA, sB, sC]
      refine hp 8 13 (.int .i64 e3) rfl HS1.out ?_
      refine hdn ?_ _
      by_cases h0 : e3 = 0
      ·subst h0
       have hbe : ((0 : Int) == 0) = true := by decide
       go_wp2_with fail
       refine (HFs.out _ HI6.out).mono ?_
       rintro e w7 ⟨rfl, hi, hg⟩
       have HRes : Hid (rkPut pl (kBlkN f) SL E = (E4, e4)) := Lh (by rw [HP2.out]; simp)
       have HI7 := Lh hi
       have HG7 := Lh (HG6.out.trans_same hg)
       clear hi hg
       go_wp2_with fail
       go_ret
       rw [HRes.out]
       exact ⟨rfl, HI7.out, RChg.non_then HG4.out HG7.out⟩
      ·have hbe : (e3 == 0) = false := by simpa using h0
       have HRes : Hid (rkPut pl (kBlkN f) SL E = (E3, e3)) := Lh (by rw [HP2.out, if_pos h0])
       go_wp2_with fail
       go_ret
       rw [HRes.out]
       exact ⟨rfl, HI6.out, RChg.non_then HG4.out HG6.out⟩
end
section
open Go.RowKit
section
variable {P : Program} {md : Region.Mode} {ops : Array Oper} {Q : Exit → Act → World → Prop} {S : World → Prop} {fuel : Nat} {listed : Array Bool} {a : Act} {w : World}
theorem h_two (i j : Nat) {oi oj : Oper} (hr : Region.ready md ops listed = [i, j]) (hi : ops[i]? = some oi) (hj : ops[j]? = some oj) (hwi : Region.wanted oi (yielded ops a.tmps) = true) (hwj : Region.wanted oj (yielded ops a.tmps) = true)
  (h1 : ∀ K : Act → World → Prop, Shut (∀ a w, S w → (S w → wpAnyH P md ops Q S fuel (listed.setIfInBounds i true) a w) → K a w) → Oper.wp P oi a w K Q)
  (h2 : ∀ K : Act → World → Prop, Shut (∀ a w, S w → (S w → wpAnyH P md ops Q S fuel (listed.setIfInBounds j true) a w) → K a w) → Oper.wp P oj a w K Q) : wpAnyH P md ops Q S (fuel + 1) listed a w :=
 wpAnyH_ready hr (by simp) (AllReadyH.cons hi (fun K hK => by rw [if_pos hwi]; exact h1 K hK) (AllReadyH.cons hj (fun K hK => by rw [if_pos hwj]; exact h2 K hK) AllReadyH.nil))
theorem h_three (i j k : Nat) {oi oj ok : Oper} (hr : Region.ready md ops listed = [i, j, k]) (hi : ops[i]? = some oi) (hj : ops[j]? = some oj) (hk : ops[k]? = some ok) (hwi : Region.wanted oi (yielded ops a.tmps) = true) (hwj : Region.wanted oj (yielded ops a.tmps) = true) (hwk : Region.wanted ok (yielded ops a.tmps) = true)
  (h1 : ∀ K : Act → World → Prop, Shut (∀ a w, S w → (S w → wpAnyH P md ops Q S fuel (listed.setIfInBounds i true) a w) → K a w) → Oper.wp P oi a w K Q)
  (h2 : ∀ K : Act → World → Prop, Shut (∀ a w, S w → (S w → wpAnyH P md ops Q S fuel (listed.setIfInBounds j true) a w) → K a w) → Oper.wp P oj a w K Q)
  (h3 : ∀ K : Act → World → Prop, Shut (∀ a w, S w → (S w → wpAnyH P md ops Q S fuel (listed.setIfInBounds k true) a w) → K a w) → Oper.wp P ok a w K Q) : wpAnyH P md ops Q S (fuel + 1) listed a w :=
 wpAnyH_ready hr (by simp) (AllReadyH.cons hi (fun K hK => by rw [if_pos hwi]; exact h1 K hK) (AllReadyH.cons hj (fun K hK => by rw [if_pos hwj]; exact h2 K hK) (AllReadyH.cons hk (fun K hK => by rw [if_pos hwk]; exact h3 K hK) AllReadyH.nil)))
end
def RdR (BL : Nat → Prop) (p : Nat) (w : World) (l : List UInt8) (r : Rs) : Prop := RdSt BL p w l r.l r.er
section
variable {BL : Nat → Prop} {p : Nat} {W : World} {l : List UInt8} {r : Rs}
theorem RdR.cInt (h : RdR BL p W l r) (hl : l.length ≤ 65536) : Calls Tryz.prog 95 #[.pointer (some ⟨p, 0, none⟩)] W fun e w' => e = .returned (.int .i64 r.int.1) ∧ RdR BL p w' l r.int.2 ∧ Chg (fun x => x = p) W w' := rRInt BL p l r.l r.er W h hl
theorem RdR.cFlag (h : RdR BL p W l r) (hl : l.length ≤ 65536) : Calls Tryz.prog 130 #[.pointer (some ⟨p, 0, none⟩)] W fun e w' => e = .returned (.bool r.flag.1) ∧ RdR BL p w' l r.flag.2 ∧ Chg (fun x => x = p) W w' := rRFlag BL p l r.l r.er W h hl
theorem RdR.cByte (h : RdR BL p W l r) (hl : l.length ≤ 65536) : Calls Tryz.prog 131 #[.pointer (some ⟨p, 0, none⟩)] W fun e w' => e = .returned (.int .u8 (r.byte.1.toNat : Nat)) ∧ RdR BL p w' l r.byte.2 ∧ Chg (fun x => x = p) W w' := rRByte BL p l r.l r.er W h hl
theorem RdR.cBytes (h : RdR BL p W l r) (hl : l.length ≤ 65536) : Calls Tryz.prog 132 #[.pointer (some ⟨p, 0, none⟩)] W fun e w' => (∃ A c, e = .returned (.slice A r.bytes.1.length c) ∧ (r.bytes.1 = [] → A = none ∧ c = 0) ∧ r.bytes.1.length ≤ c ∧ c ≤ maxLen ∧ Own W.heap.size w' A r.bytes.1) ∧ RdR BL p w' l r.bytes.2 ∧ Chg (fun x => x = p) W w' := rRBytes BL p l r.l r.er W h hl
theorem RdR.cCount (h : RdR BL p W l r) (hl : l.length ≤ 65536) (top : Nat) : Calls Tryz.prog 129 #[.pointer (some ⟨p, 0, none⟩), .int .i64 top] W fun e w' => e = .returned (.int .i64 ((r.count top).1 : Nat)) ∧ RdR BL p w' l (r.count top).2 ∧ Chg (fun x => x = p) W w' := by
 refine (rRCount BL p top l r.l r.er W h hl).mono ?_
 rintro e w' ⟨rfl, h1, h2⟩
 refine ⟨?_, h1, h2⟩
 unfold Rs.count
 simp only [Int.toNat_of_nonneg (count_bd top r.l r.er).1]
theorem RdR.keep {S : Nat → Prop} {W' : World} (h : RdR BL p W l r) (hg : Chg S W W') (hS : ∀ x, S x → ¬ BL x) : RdR BL p W' l r := RdSt.keep h hg hS
theorem RdR.non {W' : World} (h : RdR BL p W l r) (hg : Chg Non W W') : RdR BL p W' l r := RdSt.non h hg
theorem RdR.lt (h : RdR BL p W l r) : p < W.heap.size := RdSt.lt h
end
theorem ownB_none (B : Nat) (w : World) (g : Nat) (hB : B ≤ g) (hb : w.heap[g]? = some (.cells #[] 5 (0, 0))) : OwnB B w (.slice (some ⟨g, 0, none⟩) 0 0) [] :=
 ⟨by simp, .inr ⟨g, 0, _, rfl, hB, hb, Nat.le_refl _, by unfold maxLen; omega, by simp, by simp⟩⟩
structure PQ (BL : Nat → Prop) (p b9 : Nat) (W0 W : World) (l : List UInt8) (r : Rs) (pt : Pt) (m : Value) : Prop where
 sr : RdR BL p W l r
 pb : PartB W b9 pt m
 chg : Chg (fun x => x = p) W0 W
 bl : ∀ x, BL x → x < W0.heap.size
 b0 : W0.heap.size ≤ b9
namespace PQ
variable {BL : Nat → Prop} {p b9 : Nat} {W0 W W' : World} {l : List UInt8} {r r' : Rs} {pt pt' : Pt} {m m' : Value}
theorem call (h : PQ BL p b9 W0 W l r pt m) (hs : RdR BL p W' l r') (hg : Chg (fun x => x = p) W W') : PQ BL p b9 W0 W' l r' pt m := by
 have h1 := h.bl p (RdSt.ptr h.sr); have h2 := h.b0
 exact ⟨hs, h.pb.keep hg (fun e => by omega), h.chg.trans_same hg, h.bl, h2⟩
theorem set (h : PQ BL p b9 W0 W l r pt m) (i : Nat) (v : Value) (hpb : PartB (W.setCell ⟨b9, i, none⟩ v) b9 pt' m') : PQ BL p b9 W0 (W.setCell ⟨b9, i, none⟩ v) l r pt' m' := by
 have h2 := h.b0
 have hst := setAt W b9 i v
 exact ⟨h.sr.keep hst (fun x e hx => by have := h.bl x hx; have e : x = b9 := e; omega), hpb, h.chg.then_new hst (fun x e => by have e : x = b9 := e; omega), h.bl, h2⟩
theorem non (h : PQ BL p b9 W0 W l r pt m) (hg : Chg Non W W') : PQ BL p b9 W0 W' l r pt m := ⟨h.sr.non hg, h.pb.non hg, h.chg.then_non hg, h.bl, h.b0⟩
theorem new {g : Nat} (h : PQ BL p b9 W0 W l r pt m) (hg : Chg (fun k => g ≤ k) W W') (hb : b9 < g) : PQ BL p b9 W0 W' l r pt m := by
 have h2 := h.b0
 exact ⟨h.sr.keep hg (fun x e hx => by have := h.bl x hx; have e : g ≤ x := e; omega), h.pb.keep hg (fun e => by have e : g ≤ b9 := e; omega), h.chg.then_new hg (fun x e => by have e : g ≤ x := e; omega), h.bl, h2⟩
theorem re (h : PQ BL p b9 W0 W l r pt m) (e1 : r'.l = r.l) (e2 : r'.er = r.er) : PQ BL p b9 W0 W l r' pt m := ⟨by unfold RdR; rw [e1, e2]; exact h.sr, h.pb, h.chg, h.bl, h.b0⟩
end PQ
structure CQ (BL : Nat → Prop) (p b9 : Nat) (W0 W : World) (l : List UInt8) (r : Rs) (C : Array Value) : Prop where
 sr : RdR BL p W l r
 cb : W.heap[b9]? = some (.cells C 107 (0, 0))
 chg : Chg (fun x => x = p) W0 W
 bl : ∀ x, BL x → x < W0.heap.size
 b0 : W0.heap.size ≤ b9
namespace CQ
variable {BL : Nat → Prop} {p b9 : Nat} {W0 W W' : World} {l : List UInt8} {r r' : Rs} {C : Array Value}
theorem call (h : CQ BL p b9 W0 W l r C) (hs : RdR BL p W' l r') (hg : Chg (fun x => x = p) W W') : CQ BL p b9 W0 W' l r' C := by
 have h1 := h.bl p (RdSt.ptr h.sr); have h2 := h.b0
 exact ⟨hs, blk_keep h.cb hg (fun e => by have e : b9 = p := e; omega), h.chg.trans_same hg, h.bl, h2⟩
theorem set (h : CQ BL p b9 W0 W l r C) (i : Nat) (v : Value) : CQ BL p b9 W0 (W.setCell ⟨b9, i, none⟩ v) l r (C.setIfInBounds i v) := by
 have h2 := h.b0
 have hst := setAt W b9 i v
 exact ⟨h.sr.keep hst (fun x e hx => by have := h.bl x hx; have e : x = b9 := e; omega), blk_set i v h.cb, h.chg.then_new hst (fun x e => by have e : x = b9 := e; omega), h.bl, h2⟩
end CQ
def wordsP (L : List Nat) (pt : Pt) : Pt := { pt with r := (L ++ List.replicate (8 - L.length) 0).take 8, pc := L.getD 8 0 }
theorem wordsP_bd {L : List Nat} {pt : Pt} (hL : L.length = 9) (hb : ∀ x ∈ L, x < 4294967296) : (wordsP L pt).r.length = 8 ∧ (∀ i, (wordsP L pt).r.getD i 0 < 4294967296) ∧ (wordsP L pt).pc < 4294967296 := by
 have h : ∀ (R : List Nat) (i : Nat), (∀ x ∈ R, x < 4294967296) → R.getD i 0 < 4294967296 := fun R i h => by
  rw [List.getD_eq_getElem?_getD]
  cases e : R[i]? with
  | none => simp
  | some x => exact h x (List.mem_of_getElem? e)
 unfold wordsP
 simp only [hL, show 8 - 9 = 0 from rfl, List.replicate_zero, List.append_nil]
 exact ⟨by rw [List.length_take]; omega, fun i => h _ _ (fun x hx => hb x (List.mem_of_mem_take hx)), h _ _ hb⟩
theorem wordsP_zero (pt : Pt) (h : pt.r = [0, 0, 0, 0, 0, 0, 0, 0]) (h2 : pt.pc = 0) : wordsP [] pt = pt := by
 unfold wordsP
 obtain ⟨a, b, c, d, e, f, g⟩ := pt
 simp only at h h2
 subst h h2
 rfl
theorem wordsP_reg {L : List Nat} {pt : Pt} {v : Nat} (h : L.length < 8) : (wordsP L pt).set L.length v = wordsP (L ++ [v]) pt := by
 unfold wordsP Pt.set
 simp only [List.length_append, List.length_cons, List.length_nil]
 congr 1
 ·rw [List.take_of_length_le (by simp; omega), List.take_of_length_le (by simp; omega), pad_set rfl h]
 ·simp only [List.getD_eq_getElem?_getD]
  rw [List.getElem?_eq_none (by omega), List.getElem?_eq_none (by simp; omega)]
theorem wordsP_pc {L : List Nat} {pt : Pt} {v : Nat} (h : L.length = 8) : { wordsP L pt with pc := v } = wordsP (L ++ [v]) pt := by
 unfold wordsP
 simp only [List.length_append, List.length_cons, List.length_nil, h]
 congr 1
 ·rw [List.take_append_of_le_length (by omega), List.append_assoc, List.take_append_of_le_length (by omega)]
 ·simp only [List.getD_eq_getElem?_getD]
  rw [List.getElem?_append_right (by omega), h]; rfl
end
section
open Go.RowKit
theorem wp_bytes {o : Oper} {a : Act} {w : World} {K : Act → World → Prop} {Q : Exit → Act → World → Prop} (s x : Operand)
  (ho : o.op = .call { callee := .builtin .append, args := #[s, x], argTypes := #[29, 29] })
  (B : Nat) (v : Value) (l : List UInt8) (hs : a.eval s = v) (hown : OwnB B w v l) (A : Option Addr) (m : List UInt8) (c : Nat) (hx : a.eval x = .slice A m.length c) (hm : Rd w A m) (hN : m = [] → A = none ∧ c = 0)
  (hl : l.length ≤ 1000000) (hl2 : m.length ≤ 1000000) (hB : B ≤ w.heap.size)
  (h : ∀ v2 w2, OwnB B w2 v2 (l ++ m) → Chg (fun k => B ≤ k) w w2 → K (a.put o.dst v2) w2) : o.wp Tryz.prog a w K Q := by
 obtain ⟨i0, hi0, hz0, hs0, hb0⟩ := info_parts info_u8
 by_cases hz : m = []
 ·obtain ⟨rfl, rfl⟩ := hN hz
  subst hz
  have hrun := run_append_owned_none (P := Tryz.prog) (w := w) B 29 o.type 5 i0 1 Tryz.underlying29 hi0 v l.length (l.map bv) hown
  unfold Oper.wp
  simp [execOp, ho, resolve, invoke, builtin, hs, hx, hrun, Result.andThen]
  exact h v w (by rw [List.append_nil]; exact hown) (Chg.refl _ _)
 have h0 : 0 < m.length := List.length_pos_iff.2 hz
 obtain ⟨b, off, rfl, _, hcell⟩ := hm.at_ h0
 refine wp_append_lies (K := K) w s x 29 ho B 5 i0 _ 1 1 Tryz.underlying29 hi0 hz0 hs0 hb0 rfl (by omega) v l.length (l.map bv) hs hown ⟨b, off, none⟩ m.length c (m.map bv) hx (by simp) (news_of hcell) (bv_one m) h0 (by unfold maxLen; omega) (by omega) hB _ rfl ?_
 intro g cap w2 h2 hgrow hat hlt
 refine h _ _ ?_ ?_
 ·unfold OwnB
  rw [List.length_append, List.map_append]
  exact h2
 ·refine (Chg.refl (fun k => B ≤ k) w).grown hgrow fun g' hg' => .inl ?_
  rcases hown.2 with ⟨rfl, _⟩ | ⟨g2, cap2, cur, rfl, hB2, _⟩
  ·simp [Value.ownBlock] at hg'
  ·obtain rfl : g2 = g' := by simpa [Value.ownBlock] using hg'
   exact hB2
theorem wp_snocL {P : Program} {α : Type} (R : World → α → List Value → Prop) {o : Oper} {a : Act} {w : World} {K : Act → World → Prop} {Q : Exit → Act → World → Prop} (s x : Operand) (t : TypeId)
  (ho : o.op = .call { callee := .builtin .append, args := #[s, x], argTypes := #[t, t] }) (B : Nat) (e : TypeId) (z : Value) (sz bytes : Nat) (ht : P.underlying t = some (.slice e)) (hi : (P.info? e).map (fun i => (i.zero, i.size, i.bytes)) = some (some z, sz, bytes))
  (hzs : z.cells.size = sz) (hsz : 0 < sz) (v : Value) (l : List α) (hs : a.eval s = v) (hown : OwnL R B e sz w v l) (b : Nat) (k : α) (cs : Array Value) (tb : TypeId) (hx : a.eval x = .slice (some ⟨b, 0, none⟩) 1 1) (hb : w.heap[b]? = some (.cells cs tb (0, 0))) (hcs : cs.size = sz) (h1 : cs.all (·.oneCell') = true)
  (hl : l.length ≤ 1000000) (hby : bytes ≤ 100000) (hB : B ≤ w.heap.size) (hR : ∀ w' a vs, Chg (fun k => v.ownBlock = some k) w w' → R w a vs → R w' a vs) (ha : R w k cs.toList)
  (h : ∀ v2 w2, OwnL R B e sz w2 v2 (l ++ [k]) → Chg (fun k => v.ownBlock = some k) w w2 → (∀ g, v2.ownBlock = some g → v.ownBlock = some g ∨ g = w.heap.size) → K (a.put o.dst v2) w2) : o.wp P a w K Q := by
 obtain ⟨i0, hi0, hz0, hs0, hb0⟩ := info_parts hi
 have hown' := hown
 obtain ⟨xss, hro, h3, h4, h5⟩ := hown
 refine wp_append_lies (K := K) w s x t ho B e i0 z sz bytes ht hi0 hz0 hs0 hb0 hzs hsz v l.length xss.flatten hs hro ⟨b, 0, none⟩ 1 1 cs.toList hx (by simp [hcs]) ?_ ?_ (by omega) (by unfold maxLen; omega) (Nat.le_trans (Nat.mul_le_mul (show l.length + 1 ≤ 1000001 by omega) hby) (by omega)) hB _ rfl ?_
 ·intro j u hu
  rw [addr_none, Nat.zero_add, cell_of_row _ _ _ _ _ _ hb]
  simpa using hu
 ·intro u hu
  have := Array.all_eq_true.1 h1
  obtain ⟨i, hi⟩ := List.getElem?_of_mem hu
  rw [Array.getElem?_toList] at hi
  obtain ⟨hlt, e⟩ := Array.getElem?_eq_some_iff.1 hi
  have := this i hlt
  rw [e] at this
  exact this
 ·intro g cap w2 h2 hgrow hat hlt
  have hg : Chg (fun k => v.ownBlock = some k) w w2 := (Chg.refl (fun k => v.ownBlock = some k) w).grown hgrow fun g' hg' => .inl hg'
  refine h _ _ ?_ hg (fun g' e => by
    have : g = g' := by simpa [Value.ownBlock] using e
    subst this
    exact hat)
  refine ⟨xss ++ [cs.toList], ?_, by simp [h3], ?_, ?_⟩
  ·rw [List.length_append, List.flatten_append]
   simpa using h2
  ·intro x hx
   rcases List.mem_append.1 hx with hx | hx
   ·exact h4 x hx
   ·obtain rfl := List.mem_singleton.1 hx
    rw [Array.length_toList, hcs]
  ·intro i c x hc hx
   by_cases hil : i < l.length
   ·rw [List.getElem?_append_left hil] at hc
    rw [List.getElem?_append_left (by omega)] at hx
    exact hR _ _ _ hg (h5 i c x hc hx)
   ·have hil2 : i < (l ++ [k]).length := (List.getElem?_eq_some_iff.1 hc).1
    obtain rfl : i = l.length := by simp at hil2; omega
    rw [List.getElem?_append_right (Nat.le_refl _), Nat.sub_self] at hc
    rw [List.getElem?_append_right (by omega), h3, Nat.sub_self] at hx
    simp only [List.getElem?_cons_zero, Option.some.injEq] at hc hx
    subst hc hx
    exact hR _ _ _ hg ha
end
end Go.Proofs.YtkgnlobabknkcaaGreat
