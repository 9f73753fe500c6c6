/- CheckPlays, part 9 of 27: contracts of the functions that it reaches, and the laws that they need, merged and shortened (from my texts XR21g, XRdL, XStQ, XCkD, XCkP, XCkQ, XR25a). -/
import Derived.Test.YtkgnlobabknkcaaGreatMgCheckPlaysA
import Derived.Test.YtkgnlobabknkcaaGreatMgCheckPlaysC
import Derived.Test.YtkgnlobabknkcaaGreatMgCheckPlaysD
import Derived.Test.YtkgnlobabknkcaaGreatMgCheckPlaysE
import Derived.Test.YtkgnlobabknkcaaGreatMgCheckPlaysF
import Derived.Test.YtkgnlobabknkcaaGreatMgCheckPlaysG
import Derived.Test.YtkgnlobabknkcaaGreatMgCheckPlaysH
namespace Go.Proofs.YtkgnlobabknkcaaGreat
set_option linter.unusedVariables false
set_option linter.unusedSimpArgs false
set_option maxHeartbeats 8000000
set_option maxRecDepth 100000
section
open Go.RowKit
def preP (s : Sta) (k : Nat) : List UInt8 := wInt s.frames ++ (wInt (s.parts.length : Int) ++ (s.parts.take k).flatMap wPt)
def preQ (s : Sta) (k : Nat) : List UInt8 := preP s s.parts.length ++ (wInt (s.queues.length : Int) ++ (s.queues.take k).flatMap wQu)
theorem take_succ_of {α : Type} {l : List α} {k : Nat} {a : α} (h : l[k]? = some a) : l.take (k + 1) = l.take k ++ [a] := by rw [List.take_add_one, h]; rfl
theorem preP_succ {s : Sta} {k : Nat} {a : Pt} (h : s.parts[k]? = some a) : preP s (k + 1) = preP s k ++ wPt a := by
 unfold preP
 rw [take_succ_of h, List.flatMap_append, show [a].flatMap wPt = wPt a by simp]
 simp only [List.append_assoc]
theorem preQ_succ {s : Sta} {k : Nat} {a : Qu} (h : s.queues[k]? = some a) : preQ s (k + 1) = preQ s k ++ wQu a := by
 unfold preQ
 rw [take_succ_of h, List.flatMap_append, show [a].flatMap wQu = wQu a by simp]
 simp only [List.append_assoc]
theorem preQ_all (s : Sta) : preQ s s.queues.length = formS s := by
 unfold preQ preP formS
 rw [List.take_length, List.take_length]
 simp only [List.append_assoc]
theorem preQ_le (s : Sta) (k : Nat) : (preQ s k).length ≤ (formS s).length := by
 rw [← preQ_all]
 unfold preQ
 have : (s.queues.flatMap wQu).length = ((s.queues.take k).flatMap wQu).length + ((s.queues.drop k).flatMap wQu).length := by
  rw [← List.length_append, ← List.flatMap_append, List.take_append_drop]
 simp only [List.length_append, List.take_length, this]
 omega
theorem preP_le (s : Sta) (k : Nat) : (preP s k).length ≤ (formS s).length := by
 refine Nat.le_trans ?_ (preQ_le s 0)
 unfold preQ preP
 have : (s.parts.flatMap wPt).length = ((s.parts.take k).flatMap wPt).length + ((s.parts.drop k).flatMap wPt).length := by
  rw [← List.length_append, ← List.flatMap_append, List.take_append_drop]
 simp only [List.length_append, List.take_length, this]
 omega
theorem wInt_lenR (x : Int) : (wInt x).length = 8 := be_length _ _
theorem wBy_lenR (m : List UInt8) : (wBy m).length = 4 + m.length := by unfold wBy; rw [List.length_append, be_length]
theorem flat_take_leR {α : Type} (f : α → List UInt8) (l : List α) (j : Nat) : ((l.take j).flatMap f).length ≤ (l.flatMap f).length := by
 have : (l.flatMap f).length = ((l.take j).flatMap f).length + ((l.drop j).flatMap f).length := by
  rw [← List.length_append, ← List.flatMap_append, List.take_append_drop]
 omega
theorem flat_mem_le {α : Type} (f : α → List UInt8) {l : List α} {a : α} (h : a ∈ l) : (f a).length ≤ (l.flatMap f).length := by
 obtain ⟨p, q, rfl⟩ := List.append_of_mem h
 rw [List.flatMap_append, List.flatMap_cons, List.length_append, List.length_append]
 omega
theorem ints_len (xs : List Int) : (xs.flatMap wInt).length = 8 * xs.length := by
 induction xs with
 | nil => rfl
 | cons y r ih => rw [List.flatMap_cons, List.length_append, ih, List.length_cons, wInt_lenR]; omega
theorem wWords_lenR (r : List Nat) : (wWords r).length = 8 * r.length := by
 unfold wWords
 induction r with
 | nil => rfl
 | cons y r ih => rw [List.flatMap_cons, List.length_append, ih, List.length_cons, wInt_lenR]; omega
theorem wWords_snoc (r : List Nat) (x : Nat) : wWords (r ++ [x]) = wWords r ++ wInt (x : Int) := by simp [wWords]
theorem rd_one (w : World) (x : Nat) (h : x < 256) (t : TypeId := 5) : Rd (w.alloc (.cells #[.int .u8 (x : Int)] t)) (some ⟨w.heap.size, 0, none⟩) [UInt8.ofNat x] := by
 have : #[Value.int .u8 (x : Int)] = ([UInt8.ofNat x].map bv).toArray := by
  simp only [List.map_cons, List.map_nil, bv, UInt8.toNat_ofNat', Nat.mod_eq_of_lt h]
 rw [this]
 exact (own_new _ _ _ _ rfl).rd
theorem r21Form (I : Nat → Prop) (s : Sta) (vb vd : Value) (w : World) (h : StaV I w s vb vd) (hI : ∀ b, I b → b < w.heap.size) (hL : (formS s).length ≤ 60000) :
  Calls Tryz.prog 87 #[.agg #[.int .i64 s.frames, vb, vd]] w (RetB w (formS s)) := by
 obtain ⟨⟨A, c, rfl, hc, hcm, hrp⟩, ⟨A2, c2, rfl, hc2, hcm2, hrq⟩⟩ := h
 unfold maxLen at hcm hcm2
 obtain ⟨B, hB⟩ : ∃ B, w.heap.size + 1 = B := ⟨_, rfl⟩
 have HB := Lh hB
 have HRP := Lh (fun W (hg : Chg (fun k => ¬ k < B) w W) => hrp.keep hg (fun b e n => n (by have := hI b e; omega)) (fun a vs _ h => ptV.keep h hg (fun b e n => n (by have := hI b e; omega))))
 have HRQ := Lh (fun W (hg : Chg (fun k => ¬ k < B) w W) => hrq.keep hg (fun b e n => n (by have := hI b e; omega)) (fun a vs _ h => quV.keep h hg (fun b e n => n (by have := hI b e; omega))))
 have HIb := Lh hI
 have HL := Lh hL
 obtain ⟨boxS, hbox⟩ : ∃ o, Obj.cells #[.int .i64 s.frames, .slice A s.parts.length c, .slice A2 s.queues.length c2] 25 = o := ⟨_, rfl⟩
 obtain ⟨W0, hW0⟩ : ∃ W0, w.alloc boxS = W0 := ⟨_, rfl⟩
 have HBX : Hid (W0.heap[w.heap.size]? = some (.cells #[.int .i64 s.frames, .slice A s.parts.length c, .slice A2 s.queues.length c2] 25 (0, 0))) := Lh (by rw [← hW0, ← hbox]; exact blk_new _ _)
 have HG0 : Hid (Chg Non w W0) := Lh (by rw [← hW0]; exact (Chg.refl Non w).alloc _)
 have HS0 : Hid (W0.heap.size = B) := Lh (by rw [← hW0, ← hB]; simp)
 have b0 := blk_cell HBX.out 0 (v := .int .i64 s.frames) rfl
 have b1 := blk_cell HBX.out 1 (v := .slice A s.parts.length c) rfl
 have HII := Lh @rInts
 have HFl := Lh (fun k W => rFlag k W)
 have HWB := Lh (fun A l c W (h : Rd W A l) (hl : l.length ≤ 65536) => rWBytes A l c W h hl)
 clear hrp hrq hI hL hB
 go_enter Tryz.func87, Tryz.ntmps87
 go_wp2_with fail
 try rw [hbox]
 try rw [hW0]
 clear hW0
 have hfi := HII.out B (fun k => k < B) (.slice none 0 0) [] [s.frames, (s.parts.length : Int)] 2 W0 (OwnN.nil _ _ _) (fun k e => by have := HS0.out; omega) (by have := HS0.out; omega) rfl (by omega) (by simp) _ 3 rfl
 refine hfi.mono ?_
 rintro e u ⟨v', rfl, ho, hg⟩
 have HO : Hid (OwnN B (fun k => k < B) u v' (preP s 0)) := Lh (by
   rw [show preP s 0 = [] ++ [s.frames, (s.parts.length : Int)].flatMap wInt by simp [preP]]
   exact ho)
 have HC : Hid (Chg (fun k => ¬ k < B) W0 u) := Lh hg
 clear ho hg hfi b0 b1
 go_wp2_with fail
 go_loopw [3, 4] (fun v iv wr => ∃ k : Nat, k ≤ s.parts.length ∧ iv = .int .i64 k ∧ Hid (OwnN B (fun k => k < B) wr v (preP s k)) ∧ Hid (Chg (fun k => ¬ k < B) W0 wr)) (fun _ iv _ => s.parts.length - (intOf iv).toNat)
 case atStart => exact ⟨0, Nat.zero_le _, rfl, HO, HC⟩
 case round =>
  clear HO HC
  obtain ⟨k, hk, rfl, HO, HC⟩ := hrel
  obtain ⟨wo, hwo⟩ : ∃ W, W = wr := ⟨_, rfl⟩
  subst hwo
  have hbs : B ≤ wo.heap.size := by have := HC.out.size; rw [HS0.out] at this; exact this
  have hb0 : ¬ ¬ w.heap.size < B := by have := HB.out; omega
  have hbx0 := blk_keep HBX.out HC.out hb0
  have b1 := blk_cell hbx0 1 (v := .slice A s.parts.length c) rfl
  have b2 := blk_cell hbx0 2 (v := .slice A2 s.queues.length c2) rfl
  by_cases hlt : k < s.parts.length
  ·obtain ⟨a, ha⟩ : ∃ a, s.parts[k]? = some a := ⟨_, List.getElem?_eq_getElem hlt⟩
   have hltd : decide ((k : Int) < (s.parts.length : Int)) = true := by simpa using hlt
   obtain ⟨b, o, vs, rfl, hib, hvl, hrg, mv, rfl, hmv, hbd, hml⟩ := HRP.out wo (HG0.out.non_then HC.out) k a ha
   have hbl := rng_lt hrg (by omega)
   have HIB := Lh (HIb.out b hib)
   have HMV := Lh hmv
   have ho1 : mv.oneCell' = true := by obtain ⟨Am, cm, e, _⟩ := hmv; rw [e]; rfl
   have HL8 := Lh hbd.r8
   have HV := Lh hvl
   have HRG := Lh hrg
   have HBd := Lh hbd
   have HSu := Lh (preP_succ ha)
   have HLn : Hid ((preP s k).length + (wPt a).length ≤ 60000) := Lh (by
     have h1 := preP_le s (k + 1)
     rw [HSu.out, List.length_append] at h1
     have := HL.out
     omega)
   clear hrg hmv hbd ha hvl hml hib hbx0 b2
   obtain ⟨N5, hN5⟩ : ∃ N5 : Nat → Prop, N5 = (fun k => k < B ∨ k = wo.heap.size) := ⟨_, rfl⟩
   have HN5 := Lh hN5
   clear hN5
   go_wp2_with (first
       | (refine sel (some 28) (.load 104 _) ?_; refine wpList_load_mid rfl 104 (.tmp 27) rfl b (o + k * 14) rfl (partL a mv) _ HRG.out Tryz.underlying104 rfl (by rw [HV.out]; exact info_part) ?_)
       | (refine sel none (.store 104 (.tmp 5) (.tmp 28)) ?_
          refine wpList_store_rowA rfl 104 (.tmp 5) (.tmp 28) rfl wo.heap.size (partC a mv) rfl rfl 104 zeroPart (blk_new _ _) (by rw [partC_size HL8.out]; exact info_part) (by rw [partC_size HL8.out]; rfl) (partC_one _ _ ho1) ?_
          intro W1 hgW hbW
          have hgv : Chg Non wo W1 := ((Chg.refl Non wo).alloc _).then_new hgW (fun x e => by omega)
          have HGV := Lh hgv
          have HPB := Lh (show PartB W1 wo.heap.size a mv from ⟨hbW, HL8.out⟩)
          obtain ⟨k0, k1, k2, _, _, _⟩ := HPB.out.cells
          clear hgW hbW hgv))
   have hN1 : ∀ k, N5 k → k < W1.heap.size := fun k e => by
    have h1 := HPB.out.lt
    rw [HN5.out] at e
    rcases e with e | e <;> omega
   have HN1 := Lh hN1
   have hs1 : wo.heap.size < W1.heap.size := HPB.out.lt
   have HS1 := Lh (show B ≤ W1.heap.size by omega)
   have HO1 : Hid (OwnN B N5 W1 u3 (preP s k)) := Lh ((HO.out.more (fun k e => by
     rw [HN5.out] at e
     rcases e with e | e
     · exact .inl e
     · exact .inr (by omega))).non HGV.out)
   clear hN1 hs1 k2
   have hfi := HII.out B N5 u3 (preP s k) [a.id, a.size] 2 W1 HO1.out HN1.out HS1.out rfl (by omega) (by have := HLn.out; omega) _ 3 rfl
   refine hfi.mono ?_
   rintro e ua ⟨v1, rfl, ho, hg⟩
   have hN5t : N5 wo.heap.size := by rw [HN5.out]; exact .inr rfl
   have HNt := Lh hN5t
   have HO2 := Lh ho
   have HG2 := Lh hg
   have HP2 := Lh (HPB.out.keep hg (fun e => e hN5t))
   obtain ⟨_, _, k2, _, _, _⟩ := HP2.out.cells
   have HMono : Hid (∀ k, k < B → N5 k) := Lh (fun k e => by rw [HN5.out]; exact .inl e)
   have HSz : Hid (∀ W, Chg (fun k => ¬ N5 k) W1 W → B ≤ W.heap.size ∧ ∀ k, N5 k → k < W.heap.size) := Lh (fun W hW => ⟨by have := HS1.out; have := hW.size; omega, fun k e => by have := HN1.out k e; have := hW.size; omega⟩)
   clear ho hg hfi hN5t HO1
   go_wp2_with fail
   refine (HFl.out a.keep ua).mono ?_
   rintro e ub ⟨A3, c3, rfl, _, _, ho, hg⟩
   have HR3 := Lh ho.rd
   have HO3 := Lh (HO2.out.non hg)
   have HG3 := Lh (HG2.out.then_non hg)
   clear ho hg
   go_wp2_with (refine sel (some 40) (.call { callee := .builtin .append, args := #[.tmp 36, .tmp 39], argTypes := #[29, 29] }) ?_; refine Hole1.out ?_)
   refine ⟨?_⟩
   refine wpList_bytesN rfl (.tmp 36) (.tmp 39) rfl B N5 _ _ rfl HO3.out A3 [flagB a.keep] c3 rfl HR3.out (by simp) (by have := HLn.out; simp only [List.length_append, ints_len, List.length_cons, List.length_nil]; omega) (by simp) (HSz.out _ HG3.out).1 (HSz.out _ HG3.out).2 ?_
   intro v40 W40 ho hg
   have HO40 := Lh ho
   have HG4 := Lh (HG3.out.trans_same hg)
   clear ho hg HO3 HO2 HR3
   go_wp2_with fail
   go_loopw [3, 6] (fun v iv wr => ∃ j : Nat, j ≤ 8 ∧ iv = .int .i64 j ∧ Hid (OwnN B N5 wr v (preP s k ++ [a.id, a.size].flatMap wInt ++ [flagB a.keep] ++ wWords (a.r.take j))) ∧ Hid (Chg (fun k => ¬ N5 k) W1 wr)) (fun _ iv _ => 8 - (intOf iv).toNat)
   case atStart => exact ⟨0, by omega, rfl, Lh (by rw [List.take_zero, show wWords [] = [] from rfl, List.append_nil]; exact HO40.out), HG4⟩
   case round =>
    clear HG4 HO40
    obtain ⟨j, hj, rfl, HO, HG⟩ := hrel
    have HPj := Lh (HPB.out.keep HG.out (fun e => e HNt.out))
    have hrl : (preP s k ++ [a.id, a.size].flatMap wInt ++ [flagB a.keep] ++ wWords (a.r.take j)).length ≤ 100000 := by
     have h1 := HLn.out
     simp only [List.length_append, ints_len, wWords_lenR, List.length_take, List.length_cons, List.length_nil]
     omega
    have HRl := Lh hrl
    clear hrl
    by_cases hlt : j < 8
    ·have hltd : decide ((j : Int) < 8) = true := by simp; omega
     have kr := HPj.out.reg j hlt
     have hgb : a.g j < 4294967296 := HBd.out.rb j
     have hwg : IntKind.i64.wrap ((a.g j : Nat) : Int) = ((a.g j : Nat) : Int) := Go.IntWalk.i64_in _ (by omega)
     have hrj : a.r[j]? = some (a.g j) := by
      unfold Pt.g
      rw [List.getD_eq_getElem?_getD, List.getElem?_eq_getElem (by rw [HBd.out.r8]; exact hlt)]
      rfl
     have HRj := Lh hrj
     clear hrj
     obtain ⟨g, hg⟩ : ∃ g, a.g j = g := ⟨_, rfl⟩
     rw [hg] at kr hgb hwg HRj
     clear hg
     go_wp2_with fail
     have hfi := HII.out B N5 u3 _ [(g : Int)] 1 wr HO.out (HSz.out _ HG.out).2 (HSz.out _ HG.out).1 rfl (by omega) HRl.out _ 3 rfl
     refine hfi.mono ?_
     rintro e uc ⟨v1, rfl, ho, hg⟩
     have HO2 := Lh ho
     have HG2 := Lh (HG.out.trans_same hg)
     clear ho hg hfi
     go_wp2_with fail
     refine ⟨⟨j + 1, by omega, by simp, Lh ?_, HG2⟩, by simp [intOf]; omega⟩
     rw [take_succ_of HRj.out, wWords_snoc, ← List.append_assoc]
     have := HO2.out
     rwa [show [(g : Int)].flatMap wInt = wInt (g : Int) by simp] at this
    ·obtain rfl : j = 8 := by omega
     have hltd : decide ((8 : Int) < 8) = false := by simp
     obtain ⟨_, _, _, k11, _, _⟩ := HPj.out.cells
     have hpc := HBd.out.pcb
     have hst := HBd.out.stb
     have hwg : IntKind.i64.wrap ((a.pc : Nat) : Int) = ((a.pc : Nat) : Int) := Go.IntWalk.i64_in _ (by omega)
     go_wp2_with fail
     have hfi := HII.out B N5 u3 _ [(a.pc : Int)] 1 wr HO.out (HSz.out _ HG.out).2 (HSz.out _ HG.out).1 rfl (by omega) HRl.out _ 3 rfl
     refine hfi.mono ?_
     rintro e uc ⟨v1, rfl, ho, hg⟩
     have HO2 := Lh ho
     have HG2 := Lh (HG.out.trans_same hg)
     have HP2 := Lh (HPB.out.keep HG2.out (fun e => e HNt.out))
     obtain ⟨_, _, _, _, k12, _⟩ := HP2.out.cells
     clear ho hg hfi
     go_wp2_with (refine sel (some 63) (.call { callee := .builtin .append, args := #[.tmp 59, .tmp 62], argTypes := #[29, 29] }) ?_; refine Hole1.out ?_)
     refine ⟨?_⟩
     refine wpList_bytesN rfl (.tmp 59) (.tmp 62) rfl B N5 _ _ rfl (HO2.out.non ((Chg.refl Non _).alloc _)) (some ⟨uc.heap.size, 0, none⟩) [UInt8.ofNat a.st] 1 rfl (rd_one _ _ hst) (by simp) (by have := HRl.out; rw [List.length_append, ints_len]; simp only [List.length_cons, List.length_nil]; omega) (by simp) (HSz.out _ (HG2.out.alloc _)).1 (HSz.out _ (HG2.out.alloc _)).2 ?_
     intro v63 W63 ho hg
     have HO63 := Lh ho
     have HG3 := Lh ((HG2.out.alloc _).trans_same hg)
     have HP3 := Lh (HPB.out.keep HG3.out (fun e => e HNt.out))
     obtain ⟨_, _, _, _, _, k13⟩ := HP3.out.cells
     have hmv := HMV.out.keep (HGV.out.non_then HG3.out) (fun b e n => n (HMono.out b (by have := HIb.out b e; have := HB.out; omega)))
     obtain ⟨Am, cm, hmve, _, _, hrd, _⟩ := hmv
     subst hmve
     have HRm := Lh hrd
     have HLm : Hid (a.mem.length ≤ 60000) := Lh (by
       have h1 := HLn.out
       unfold wPt at h1
       simp only [List.length_append, List.length_cons, wBy_lenR] at h1
       omega)
     have hLw := wBy_lenR a.mem
     have HLw := Lh hLw
     clear ho hg hrd hLw k12
     go_wp2_with fail
     refine (HWB.out Am a.mem cm _ HRm.out (by have := HLm.out; omega)).mono ?_
     rintro e ud ⟨A5, c5, rfl, _, _, ho, hg⟩
     have HR5 := Lh ho.rd
     have HO5 := Lh (HO63.out.non hg)
     have HG5 := Lh (HG3.out.then_non hg)
     rw [HLw.out]
     clear ho hg
     go_wp2_with (refine sel (some 68) (.call { callee := .builtin .append, args := #[.tmp 64, .tmp 67], argTypes := #[29, 29] }) ?_; refine Hole1.out ?_)
     refine ⟨?_⟩
     refine wpList_bytesN rfl (.tmp 64) (.tmp 67) rfl B N5 _ _ rfl HO5.out A5 (wBy a.mem) c5 (by rw [HLw.out]; rfl) HR5.out (by rw [HLw.out]; omega) (by have := HRl.out; rw [List.length_append, List.length_append, ints_len]; simp only [List.length_cons, List.length_nil]; omega) (by rw [HLw.out]; have := HLm.out; omega) (HSz.out _ HG5.out).1 (HSz.out _ HG5.out).2 ?_
     intro v68 W68 ho hg
     have HO68 := Lh ho
     have HG6 := Lh (HG5.out.trans_same hg)
     clear ho hg
     go_wp2_with fail
     refine ⟨⟨k + 1, by omega, by simp, Lh ?_, Lh (((HC.out.then_non HGV.out).trans HG6.out (fun x e => e) (fun x _ e n => e (HMono.out x n))))⟩, by simp [intOf]; omega⟩
     rw [HSu.out]
     have h8 : a.r.take 8 = a.r := List.take_of_length_le (by rw [HBd.out.r8]; omega)
     have := HO68.out.less HMono.out
     rw [h8] at this
     have e : preP s k ++ wPt a = preP s k ++ [a.id, a.size].flatMap wInt ++ [flagB a.keep] ++ wWords a.r ++ [(a.pc : Int)].flatMap wInt ++ [UInt8.ofNat a.st] ++ wBy a.mem := by simp [wPt]
     rw [e]
     exact this
  ·obtain rfl : k = s.parts.length := by omega
   have hltd : decide ((s.parts.length : Int) < (s.parts.length : Int)) = false := by simp
   have hfi := HII.out B (fun k => k < B) u3 (preP s s.parts.length) [(s.queues.length : Int)] 1 wo HO.out (fun k e => by omega) hbs rfl (by omega) (by have := preP_le s s.parts.length; have := HL.out; omega) _ 3 rfl
   have HFI := Lh hfi
   clear hfi hbx0 HRP
   go_wp2_with fail
   refine HFI.out.mono ?_
   rintro e ua ⟨v1, rfl, ho, hg⟩
   have HO2 : Hid (OwnN B (fun k => k < B) ua v1 (preQ s 0)) := Lh (by
     have : preQ s 0 = preP s s.parts.length ++ [(s.queues.length : Int)].flatMap wInt := by unfold preQ; simp
     rw [this]
     exact ho)
   have HC2 := Lh (HC.out.trans_same hg)
   clear ho hg HFI HO HC b1 b2
   go_wp2_with fail
   go_loopw [3, 7] (fun v iv wr => ∃ k : Nat, k ≤ s.queues.length ∧ iv = .int .i64 k ∧ Hid (OwnN B (fun k => k < B) wr v (preQ s k)) ∧ Hid (Chg (fun k => ¬ k < B) W0 wr)) (fun _ iv _ => s.queues.length - (intOf iv).toNat)
   case atStart => exact ⟨0, Nat.zero_le _, rfl, HO2, HC2⟩
   case round =>
    clear HO2 HC2 hbs hb0
    obtain ⟨k, hk, rfl, HO, HC⟩ := hrel
    obtain ⟨wq, hwq⟩ : ∃ W, W = wr := ⟨_, rfl⟩
    subst hwq
    have hbs : B ≤ wq.heap.size := by have := HC.out.size; rw [HS0.out] at this; exact this
    have hb0 : ¬ ¬ w.heap.size < B := by have := HB.out; omega
    have hbx0 := blk_keep HBX.out HC.out hb0
    have b2 := blk_cell hbx0 2 (v := .slice A2 s.queues.length c2) rfl
    by_cases hlt : k < s.queues.length
    ·obtain ⟨a, ha⟩ : ∃ a, s.queues[k]? = some a := ⟨_, List.getElem?_eq_getElem hlt⟩
     have hltd : decide ((k : Int) < (s.queues.length : Int)) = true := by simpa using hlt
     obtain ⟨b, o, vs, rfl, hib, hvl, hrg, mv, rfl, ⟨Am, cm, rfl, hmc, hmm, hms⟩, hbd, hml⟩ := HRQ.out wq (HG0.out.non_then HC.out) k a ha
     have hbl := rng_lt hrg (by omega)
     have HIB := Lh (HIb.out b hib)
     have HRG := Lh hrg
     have HSu := Lh (preQ_succ ha)
     have HMS := Lh hms
     have HLn : Hid ((preQ s k).length + (wQu a).length ≤ 60000) := Lh (by
       have h1 := preQ_le s (k + 1)
       rw [HSu.out, List.length_append] at h1
       have := HL.out
       omega)
     obtain ⟨⟨x1, x2, x3, x4, x5⟩, ms⟩ := a
     simp only at hmc hmm hml HMS HRG
     have HRc : Hid (wq.rangeAt b (o + k * 6) [.int .i64 x1, .int .i64 x2, .int .i64 x3, .int .i64 x4, .int .i64 x5]) := Lh (fun j v hv => HRG.out j v (by
       have hj : j < 5 := by have := (List.getElem?_eq_some_iff.1 hv).1; simpa using this
       have h' : j = 0 ∨ j = 1 ∨ j = 2 ∨ j = 3 ∨ j = 4 := by omega
       rcases h' with rfl | rfl | rfl | rfl | rfl <;> simpa [Qu.L] using hv))
     have HM5 : Hid (wq.cell? ⟨b, o + k * 6 + 5, none⟩ = some (.slice Am ms.length cm)) := Lh (HRG.out 5 _ rfl)
     unfold maxLen at hmm
     have HIb2 := Lh (HIb.out)
     clear hrg ha hvl hib hms
     obtain ⟨N5, hN5⟩ : ∃ N5 : Nat → Prop, N5 = (fun k => k < B ∨ k = wq.heap.size) := ⟨_, rfl⟩
     have HN5 := Lh hN5
     clear hN5
     go_wp2_with (first
       | (refine sel (some 87) (.load 107 _) ?_; refine wpList_load_mid rfl 107 (.tmp 86) rfl b (o + k * 6) rfl [.int .i64 x1, .int .i64 x2, .int .i64 x3, .int .i64 x4, .int .i64 x5] _ HRc.out Tryz.underlying107 rfl (by kernel_rfl) ?_)
       | (refine sel none (.store 107 (.tmp 8) (.tmp 87)) ?_
          refine wpList_store_rowA rfl 107 (.tmp 8) (.tmp 87) rfl wq.heap.size #[.int .i64 x1, .int .i64 x2, .int .i64 x3, .int .i64 x4, .int .i64 x5] rfl rfl 107 _ (blk_new _ _) (by kernel_rfl) (by kernel_rfl) (by simp [Value.oneCell']) ?_
          intro W1 hgW hbW
          have hgv : Chg Non wq W1 := ((Chg.refl Non wq).alloc _).then_new hgW (fun x e => by omega)
          have HGV := Lh hgv
          have HBW := Lh hbW
          clear hgW hbW hgv))
     obtain ⟨V, hV⟩ : ∃ V, V = W1.drew := ⟨_, rfl⟩
     have hgV : Chg Non W1 V := by rw [hV]; exact (Chg.refl Non _).drew
     have HNt : Hid (N5 wq.heap.size) := Lh (by rw [HN5.out]; exact .inr rfl)
     have HMono : Hid (∀ k, k < B → N5 k) := Lh (fun k e => by rw [HN5.out]; exact .inl e)
     have HNb : Hid (N5 w.heap.size) := Lh (HMono.out _ (by have := HB.out; omega))
     have HNs : Hid (N5 b) := Lh (HMono.out _ (by have := HB.out; have := HIB.out; omega))
     have HGqV := Lh (HGV.out.then_non hgV)
     have HBV := Lh (blk_keep HBW.out hgV (fun e => e))
     have HsV : Hid (∀ W, Chg (fun k => ¬ N5 k) V W → B ≤ W.heap.size ∧ ∀ k, N5 k → k < W.heap.size) := Lh (fun W hW => by
       have h1 := blk_lt HBV.out
       have := hW.size
       refine ⟨by omega, fun k e => ?_⟩
       rw [HN5.out] at e
       rcases e with e | e <;> omega)
     have D5 := blk_cell (blk_keep hbx0 HGqV.out (fun e => e)) 2 (v := .slice (some ⟨b, o, none⟩) s.queues.length c2) rfl
     have D6 := HGqV.out.cell_some HM5.out (fun e => e)
     have HD5 := Lh D5
     have HD6 := Lh D6
     have D0 := blk_cell HBV.out 0 (v := .int .i64 x1) rfl
     have D1 := blk_cell HBV.out 1 (v := .int .i64 x2) rfl
     have D2 := blk_cell HBV.out 2 (v := .int .i64 x3) rfl
     have D3 := blk_cell HBV.out 3 (v := .int .i64 x4) rfl
     have D4 := blk_cell HBV.out 4 (v := .int .i64 x5) rfl
     have HOV : Hid (OwnN B N5 V u3 (preQ s k)) := Lh ((HO.out.more (fun k e => by
       rw [HN5.out] at e
       rcases e with e | e
       · exact .inl e
       · exact .inr (by omega))).non HGqV.out)
     have HMSV := Lh (fun W (hg : Chg (fun k => ¬ N5 k) V W) => HMS.out.keep (HGqV.out.non_then hg) (fun b e n => n (HMono.out b (by have := HIb2.out b e; have := HB.out; omega))) (fun a vs _ h => msgV.keep h (HGqV.out.non_then hg) (fun b e n => n (HMono.out b (by have := HIb2.out b e; have := HB.out; omega)))))
     have hpl : (preQ s k).length ≤ 100000 := by have := HLn.out; omega
     have HPl := Lh hpl
     clear b2 hpl hltd
     obtain ⟨v8, hv8⟩ : ∃ v, u3 = v := ⟨_, rfl⟩
     rw [hv8] at HOV ⊢
     clear hv8 hgV
     refine wp_region_held_drew (S := Chg (fun k => ¬ N5 k) V) (by kernel_rfl) (by rw [hV]; exact Chg.refl _ _) (fun hHeld => ?_)
     clear hHeld
     rw [← hV]
     clear hV
     have HS : Hid (Chg (fun k => ¬ N5 k) V V) := Lh (Chg.refl _ _)
     refine hp 0 88 (v8) rfl HS.out ?_
     refine hp 1 89 (.pointer (some ⟨wq.heap.size, 0, none⟩)) rfl HS.out ?_
     refine hp 2 90 (.int .i64 x1) rfl HS.out ?_ (he := fun W hW => by have hc := hW.cell_some D0 (fun e => e HNt.out); go_simp)
     refine hp 3 91 (.pointer (some ⟨wq.heap.size, 1, none⟩)) rfl HS.out ?_
     refine hp 4 92 (.int .i64 x2) rfl HS.out ?_ (he := fun W hW => by have hc := hW.cell_some D1 (fun e => e HNt.out); go_simp)
     refine hp 5 93 (.pointer (some ⟨wq.heap.size, 2, none⟩)) rfl HS.out ?_
     refine hp 6 94 (.int .i64 x3) rfl HS.out ?_ (he := fun W hW => by have hc := hW.cell_some D2 (fun e => e HNt.out); go_simp)
     refine hp 7 95 (.pointer (some ⟨wq.heap.size, 3, none⟩)) rfl HS.out ?_
     refine hp 8 96 (.int .i64 x4) rfl HS.out ?_ (he := fun W hW => by have hc := hW.cell_some D3 (fun e => e HNt.out); go_simp)
     refine hp 9 97 (.pointer (some ⟨wq.heap.size, 4, none⟩)) rfl HS.out ?_
     refine hp 10 98 (.int .i64 x5) rfl HS.out ?_ (he := fun W hW => by have hc := hW.cell_some D4 (fun e => e HNt.out); go_simp)
     refine hp 11 99 (.pointer (some ⟨w.heap.size, 2, none⟩)) rfl HS.out ?_
     refine hp 12 100 (.slice (some ⟨b, o, none⟩) s.queues.length c2) rfl HS.out ?_ (he := fun W hW => by have hc := hW.cell_some D5 (fun e => e HNb.out); go_simp)
     refine hp 13 101 (.int .i64 (k : Int)) rfl HS.out ?_
     refine hp 14 102 (.pointer (some ⟨b, o + k * 6, none⟩)) rfl HS.out ?_
     refine hp 15 103 (.pointer (some ⟨b, o + k * 6 + 5, none⟩)) rfl HS.out ?_
     refine hp 16 104 (.slice Am ms.length cm) rfl HS.out ?_ (he := fun W hW => by have hc := hW.cell_some D6 (fun e => e HNs.out); go_simp)
     refine hp 17 105 (.int .i64 (ms.length : Int)) rfl HS.out ?_
     clear D0 D1 D2 D3 D4 D5 D6
     refine h1o 18 rfl ?_
     intro K hK
     go_simp
     refine hK.out _ _ (HS.out.alloc _) (fun _ => ?_)
     clear hK K
     try simp only [Act.put, sA, sB, sC]
     refine h1o 19 rfl ?_
     intro K hK
     go_simp
     have hfi := HII.out B N5 v8 (preQ s k) [x1, x2, x3, x4, x5, (ms.length : Int)] 6 V HOV.out (HsV.out _ HS.out).2 (HsV.out _ HS.out).1 rfl (by omega) HPl.out _ 3 rfl
     refine hfi.mono ?_
     rintro e ub ⟨v1, rfl, ho, hg⟩
     have HO2 := Lh ho
     have HG2 := Lh hg
     refine hK.out _ _ HG2.out (fun _ => ?_)
     clear hK K hfi ho hg
     try simp only [Act.put, sA, sB, sC]
     refine hp 20 3 v1 rfl HG2.out ?_
     refine hdn ?_ _
     go_wp2_with fail
     go_loopw [3, 9] (fun v iv wr => ∃ j : Nat, j ≤ ms.length ∧ iv = .int .i64 j ∧ Hid (OwnN B N5 wr v (preQ s k ++ [x1, x2, x3, x4, x5, (ms.length : Int)].flatMap wInt ++ (ms.take j).flatMap wBy)) ∧ Hid (Chg (fun k => ¬ N5 k) V wr)) (fun _ iv _ => ms.length - (intOf iv).toNat)
     case atStart => exact ⟨0, by omega, rfl, Lh (by rw [List.take_zero, List.flatMap_nil, List.append_nil]; exact HO2.out), HG2⟩
     case round =>
      clear HO2 HG2
      obtain ⟨j, hj, rfl, HO2, HG2⟩ := hrel
      have D5 := HG2.out.cell_some HD5.out (fun e => e HNb.out)
      have D6 := HG2.out.cell_some HD6.out (fun e => e HNs.out)
      by_cases hlt : j < ms.length
      ·obtain ⟨m, hm⟩ : ∃ m, ms[j]? = some m := ⟨_, List.getElem?_eq_getElem hlt⟩
       have hltd : decide ((j : Int) < (ms.length : Int)) = true := by simpa using hlt
       obtain ⟨bm, om, vs, rfl, _, hvl, hcell, mv, rfl, ⟨Ax, cx, rfl, hx1, hx2, hrd, _⟩, _⟩ := HMSV.out wr HG2.out j m hm
       have k1 := hcell 0 _ rfl
       rw [Nat.mul_one, Nat.add_zero] at k1
       have HRx := Lh hrd
       have hqb : (ms.flatMap wBy).length + 48 + (preQ s k).length ≤ 60000 := by
        have h1 := HLn.out
        unfold wQu wMs at h1
        simp only [List.length_append, wInt_lenR] at h1
        omega
       have hmb := flat_mem_le wBy (List.mem_of_getElem? hm)
       have htb := flat_take_leR wBy ms j
       rw [wBy_lenR] at hmb
       have HLm : Hid (m.length ≤ 60000) := Lh (by omega)
       have HRl : Hid ((preQ s k ++ [x1, x2, x3, x4, x5, (ms.length : Int)].flatMap wInt ++ (ms.take j).flatMap wBy).length ≤ 100000) := Lh (by
         simp only [List.length_append, ints_len, List.length_cons, List.length_nil]
         omega)
       have HMj := Lh (take_succ_of hm)
       have HLw := Lh (wBy_lenR m)
       clear hm hvl hcell hrd hqb hmb htb
       go_wp2_with fail
       refine (HWB.out Ax m cx _ HRx.out (by have := HLm.out; omega)).mono ?_
       rintro e ud ⟨A5, c5, rfl, _, _, ho, hg⟩
       have HR5 := Lh ho.rd
       have HO5 := Lh (HO2.out.non hg)
       have HG5 := Lh (HG2.out.then_non hg)
       rw [HLw.out]
       clear ho hg
       go_wp2_with (refine sel (some 130) (.call { callee := .builtin .append, args := #[.tmp 119, .tmp 129], argTypes := #[29, 29] }) ?_; refine Hole1.out ?_)
       refine ⟨?_⟩
       refine wpList_bytesN rfl (.tmp 119) (.tmp 129) rfl B N5 _ _ rfl HO5.out A5 (wBy m) c5 (by rw [HLw.out]; rfl) HR5.out (by rw [HLw.out]; omega) (by have := HRl.out; omega) (by rw [HLw.out]; have := HLm.out; omega) (HsV.out _ HG5.out).1 (HsV.out _ HG5.out).2 ?_
       intro v130 W130 ho hg
       have HO130 := Lh ho
       have HG6 := Lh (HG5.out.trans_same hg)
       clear ho hg
       go_wp2_with fail
       refine ⟨⟨j + 1, by omega, by simp, Lh ?_, HG6⟩, by simp [intOf]; omega⟩
       rw [HMj.out, List.flatMap_append, show [m].flatMap wBy = wBy m by simp, ← List.append_assoc]
       exact HO130.out
      ·obtain rfl : j = ms.length := by omega
       have hltd : decide ((ms.length : Int) < (ms.length : Int)) = false := by simp
       go_wp2_with fail
       refine ⟨⟨k + 1, by omega, by simp, Lh ?_, Lh ((HC.out.then_non HGqV.out).trans HG2.out (fun x e => e) (fun x _ e n => e (HMono.out x n)))⟩, by simp [intOf]; omega⟩
       rw [HSu.out]
       have := HO2.out.less HMono.out
       rw [List.take_length] at this
       have e : preQ s k ++ wQu ⟨⟨x1, x2, x3, x4, x5⟩, ms⟩ = preQ s k ++ [x1, x2, x3, x4, x5, (ms.length : Int)].flatMap wInt ++ ms.flatMap wBy := by simp [wQu, wMs]
       rw [e]
       exact this
    ·obtain rfl : k = s.queues.length := by omega
     have hltd : decide ((s.queues.length : Int) < (s.queues.length : Int)) = false := by simp
     have hfin := HO.out.own
     rw [preQ_all] at hfin
     have HF := Lh (hfin.mono (B' := w.heap.size) (by have := HB.out; omega))
     have HGf : Hid (Chg Non w wq) := Lh (HG0.out.then_new HC.out (fun x e => by have := HB.out; omega))
     clear hfin
     go_wp2_with fail
     go_ret
     exact HF.out.ret HGf.out
end
section

end
section
open Go.RowKit
def parseS (l : List UInt8) : Option Sta :=
 let r := Rs.sta ⟨l, 0, false⟩
 if r.2.er = 0 ∧ r.2.l = [] ∧ r.2.wide = false ∧ mayS r.1 = true then some r.1 else none
theorem wInt_len (n : Int) : (wInt n).length = 8 := be_length _ _
structure StBd (s : Sta) : Prop where
 fr : I64 s.frames
 np : s.parts.length ≤ 6
 nq : s.queues.length ≤ 8
 ps : ∀ p ∈ s.parts, p.Bd ∧ p.mem.length ≤ 512
 qs : ∀ q ∈ s.queues, q.ch.Bd ∧ q.msgs.length ≤ 4 ∧ ∀ m ∈ q.msgs, m.length ≤ 16
theorem flat_le {α : Type} {w : α → List UInt8} {k : Nat} (l : List α) (h : ∀ a ∈ l, (w a).length ≤ k) : (l.flatMap w).length ≤ l.length * k := by
 induction l with
 | nil => simp
 | cons a l ih =>
  have h1 := h a (List.mem_cons_self ..)
  have h2 := ih (fun b hb => h b (List.mem_cons_of_mem _ hb))
  rw [List.flatMap_cons, List.length_append, List.length_cons, Nat.add_mul]
  omega
theorem wBy_len (m : List UInt8) : (wBy m).length = 4 + m.length := by unfold wBy; rw [List.length_append, be_length]
theorem wWords_len {r : List Nat} (h8 : r.length = 8) : (wWords r).length = 64 := by
  unfold wWords
  have : ∀ l : List Nat, (l.flatMap fun x : Nat => wInt (x : Int)).length = l.length * 8 := by
   intro l
   induction l with
   | nil => rfl
   | cons a l ih => rw [List.flatMap_cons, List.length_append, wInt_len, ih, List.length_cons]; omega
  rw [this, h8]
theorem wPt_len {p : Pt} (h8 : p.r.length = 8) : (wPt p).length = 94 + p.mem.length := by
 have hw := wWords_len h8
 unfold wPt
 simp only [List.length_append, List.length_cons, wInt_len, wBy_len, hw]
 omega
theorem wQu_len {q : Qu} (h4 : q.msgs.length ≤ 4) (hm : ∀ m ∈ q.msgs, m.length ≤ 16) : (wQu q).length ≤ 128 := by
 have h := flat_le (w := wBy) (k := 20) q.msgs (fun a ha => by rw [wBy_len]; have := hm a ha; omega)
 unfold wQu wMs
 simp only [List.length_append, wInt_len]
 omega
theorem formS_len {s : Sta} (h : StBd s) : (formS s).length ≤ 4684 ∧ 1 ≤ (formS s).length := by
 have h1 := flat_le (w := wPt) (k := 606) s.parts (fun a ha => by rw [wPt_len (h.ps a ha).1.r8]; have := (h.ps a ha).2; omega)
 have h2 := flat_le (w := wQu) (k := 128) s.queues (fun a ha => wQu_len (h.qs a ha).2.1 (h.qs a ha).2.2)
 have h3 := h.np
 have h4 := h.nq
 unfold formS
 simp only [List.length_append, wInt_len]
 omega
theorem mayL_all {α : Type} {ok : α → Bool} {id : α → Int} {l : List α} (h : mayL ok id l = true) : ∀ a ∈ l, ok a = true := by
 intro a ha
 obtain ⟨k, hk⟩ := List.getElem?_of_mem ha
 rw [mayL, List.all_eq_true] at h
 have := h k (List.mem_range.2 (List.getElem?_eq_some_iff.1 hk).1)
 simp only [stepMay, hk, Bool.and_eq_true] at this
 exact this.1
theorem chPart_le {n : Int} (h : chPart n = true) : 1 ≤ n ∧ n ≤ 6 := by
 simp only [chPart, Bool.and_eq_true, decide_eq_true_eq] at h
 omega
theorem chMay_bd {a : Ch} (h : a.may = true) : a.Bd ∧ a.cap ≤ 4 ∧ a.size ≤ 16 := by
 simp only [Ch.may, chMay, Bool.and_eq_true, decide_eq_true_eq] at h
 obtain ⟨⟨⟨⟨⟨⟨⟨⟨h1, h2⟩, h3⟩, h4⟩, _⟩, h5⟩, h6⟩, h7⟩, h8⟩ := h
 have h3' := chPart_le h3
 have h4' := chPart_le h4
 refine ⟨⟨⟨?_, ?_⟩, ⟨?_, ?_⟩, ⟨?_, ?_⟩, ⟨?_, ?_⟩, ⟨?_, ?_⟩⟩, ?_, ?_⟩ <;> omega
theorem mayQ_bd {q : Qu} (h : mayQ q = true) : q.ch.Bd ∧ q.msgs.length ≤ 4 ∧ ∀ m ∈ q.msgs, m.length ≤ 16 := by
 simp only [mayQ, Bool.and_eq_true, decide_eq_true_eq, Bool.not_eq_true', List.any_eq_false] at h
 obtain ⟨⟨h1, h2⟩, h3⟩ := h
 obtain ⟨b, h4, h5⟩ := chMay_bd h1
 refine ⟨b, by omega, fun m hm => ?_⟩
 have := h3 m hm
 omega
theorem partOk_mem {p : Pt} (h : partOk p = true) : p.mem.length ≤ 512 := by
 simp only [partOk, Bool.and_eq_true, decide_eq_true_eq] at h
 obtain ⟨⟨⟨_, h1⟩, h2⟩, _⟩ := h
 have := regMay_iff.1 h1
 omega
theorem stBd_may {s : Sta} (hm : mayS s = true) (hp : ∀ p ∈ s.parts, p.Bd) : StBd s := by
 simp only [mayS, Bool.and_eq_true, decide_eq_true_eq] at hm
 obtain ⟨⟨⟨⟨⟨h1, h2⟩, h3⟩, h4⟩, h5⟩, h6⟩ := hm
 exact ⟨⟨by omega, by omega⟩, h3, h4, fun p h => ⟨hp p h, partOk_mem (mayL_all h5 p h)⟩, fun q h => mayQ_bd (mayL_all h6 q h)⟩
end
section
theorem lookN {m : List (Nat × List UInt8)} {i : Nat} (h : ∀ p ∈ m, p.1 ≠ i) : look m i = none := by
 unfold look
 rw [List.find?_eq_none.2 (fun p hp => by simpa using h p hp)]
 rfl
theorem look_key {m : List (Nat × List UInt8)} {i : Nat} (h : ∃ p ∈ m, p.1 = i) : ∃ l, look m i = some l := by
 obtain ⟨p, hp, e⟩ := h
 unfold look
 cases hf : m.find? (fun p => p.1 == i) with
 | none => exact absurd (List.find?_eq_none.1 hf p hp) (by simp [e])
 | some q => exact ⟨q.2, rfl⟩
theorem look_upd (m : List (Nat × List UInt8)) (i j : Nat) (l : List UInt8) : look (upd m i l) j = if j = i then some l else look m j := by
 unfold upd
 split
 ·rename_i hs
  unfold look
  rw [List.find?_map]
  by_cases hj : j = i
  ·subst hj
   rw [if_pos rfl]
   have he : ((fun p : Nat × List UInt8 => p.1 == j) ∘ fun p : Nat × List UInt8 => if (p.1 == j) = true then (j, l) else p) = fun p => p.1 == j := by
    funext p
    simp only [Function.comp]
    by_cases hp : (p.1 == j) = true
    ·rw [if_pos hp]; simp [hp]
    ·rw [if_neg hp]
   rw [he]
   obtain ⟨q, hq⟩ := Option.isSome_iff_exists.1 hs
   have hqj := List.find?_some hq
   rw [hq]
   simp only [Option.map_some, hqj, if_true]
  ·rw [if_neg hj]
   have he : ((fun p : Nat × List UInt8 => p.1 == j) ∘ fun p : Nat × List UInt8 => if (p.1 == i) = true then (i, l) else p) = fun p => p.1 == j := by
    funext p
    simp only [Function.comp]
    by_cases hp : (p.1 == i) = true
    ·rw [if_pos hp]
     have : p.1 = i := by simpa using hp
     rw [this]
    ·rw [if_neg hp]
   rw [he]
   cases hf : m.find? (fun p => p.1 == j) with
   | none => rfl
   | some q =>
    have hqj : q.1 = j := by simpa using List.find?_some hf
    simp only [Option.map_some]
    rw [if_neg (by rw [hqj]; simpa using hj)]
 ·rename_i hs
  have hn : m.find? (fun p => p.1 == i) = none := by
   cases hq : m.find? (fun p => p.1 == i) with
   | none => rfl
   | some q => rw [hq] at hs; simp at hs
  unfold look
  rw [List.find?_append]
  by_cases hj : j = i
  ·subst hj
   rw [hn, if_pos rfl]
   simp
  ·rw [if_neg hj]
   have : [(i, l)].find? (fun p => p.1 == j) = none := by simp; omega
   rw [this, Option.or_none]
namespace Dk
theorem spillTo_len (D : Dk) (st : Nat → Bool) : ∀ n, (D.spillTo st n).length = D.sec.length
 | 0 => rfl
 | n + 1 => by
  unfold spillTo
  split
  ·split
   ·rw [List.length_set, spillTo_len D st n]
   ·exact spillTo_len D st n
  ·exact spillTo_len D st n
theorem spillTo_all (D : Dk) (i : Nat) (hi : i < D.sec.length) : ∀ n, (∃ m, m < n ∧ (dirty D.cache)[m]? = some i) → (D.spillTo (fun _ => true) n).getD i [] = (look D.cache i).getD []
 | 0, h => by obtain ⟨m, h, _⟩ := h; omega
 | n + 1, ⟨m, hm, hk⟩ => by
  unfold spillTo
  by_cases hmn : m = n
  ·subst hmn
   rw [hk]
   simp only [if_true]
   simp [List.getD, List.getElem?_set, spillTo_len, hi]
  ·have ih := spillTo_all D i hi n ⟨m, by omega, hk⟩
   split
   ·rename_i k hk2
    simp only [if_true]
    by_cases hki : k = i
    ·subst hki
     simp [List.getD, List.getElem?_set, spillTo_len, hi]
    ·have e : ((D.spillTo (fun _ => true) n).set k ((look D.cache k).getD [])).getD i [] = (D.spillTo (fun _ => true) n).getD i [] := by
      simp only [List.getD, List.getElem?_set, if_neg hki]
     rw [e]; exact ih
   ·exact ih
end Dk
def ckW (s : Nat) (blk : Nat → List UInt8) (D : Dk) : Nat → Dk × Int
 | 0 => (D, 0)
 | k + 1 => if (ckW s blk D k).2 = 0 then (ckW s blk D k).1.write ((s + k : Nat) : Int) (blk k) else ckW s blk D k
def ckPut (p : Nat) (blk : Nat → List UInt8) (h : List UInt8) (D : Dk) : Dk × Int :=
 let a := ckW (132 + 96 * p) blk D 95
 if a.2 ≠ 0 then a else
 let b := a.1.flush
 if b.2 ≠ 0 then b else
 let c := b.1.write ((131 + 96 * p : Nat) : Int) h
 if c.2 ≠ 0 then c else c.1.flush
end
section
open Go.RowKit
structure Ti where
 n : Int
 size : Int
 hash : List UInt8
 sum : Nat
def Ti.form (t : Ti) : List UInt8 := wInt t.n ++ (wInt t.size ++ (t.hash ++ wInt (t.sum : Int)))
def tiFields (m : List UInt8) : Int × Int × List UInt8 × Int × List UInt8 × Int :=
 let a := rdInt m 0
 let b := rdInt a.2.1 a.2.2
 let c := rdTag b.2.1 b.2.2
 let d := rdInt c.2.1 c.2.2
 (a.1, b.1, c.1, d.1, d.2.1, d.2.2)
def sum32 (x : Int) : Nat := (x % 4294967296).toNat
def tiRd (s : List UInt8) : Ti × Bool :=
 let f := tiFields ((openL 3 s).getD [])
 (⟨f.1, f.2.1, f.2.2.1, sum32 f.2.2.2.1⟩, (openL 3 s).isSome && (decide (f.2.2.2.2.2 = 0) && decide (f.2.2.2.2.1 = [])) && decide ((sum32 f.2.2.2.1 : Int) = f.2.2.2.1) && decide (1 ≤ f.1) && decide (1 ≤ f.2.1) && decide (f.2.1 ≤ 6080))
theorem tiFields_split (m : List UInt8) : ∃ x1 l1 e1 x2 l2 e2 x3 l3 e3 x4 l4 e4, rdInt m 0 = (x1, l1, e1) ∧ rdInt l1 e1 = (x2, l2, e2) ∧ rdTag l2 e2 = (x3, l3, e3) ∧ rdInt l3 e3 = (x4, l4, e4) ∧ tiFields m = (x1, x2, x3, x4, l4, e4) :=
 ⟨_, _, _, _, _, _, _, _, _, _, _, _, rfl, rfl, rfl, rfl, rfl⟩
theorem Ti.form_len (t : Ti) (h : t.hash.length = 32) : t.form.length = 56 := by
 unfold Ti.form; simp only [List.length_append, wInt_len, h]
def kAll (D : Dk) (p : Nat) : List UInt8 := (List.range 95).flatMap fun k => D.at_ (132 + 96 * p + k)
def kAt (D : Dk) (p : Nat) : Option (Int × List UInt8 × Sta) :=
 let t := tiRd (D.at_ (131 + 96 * p))
 if t.2 = true ∧ t.1.n % 2 = (p : Int) ∧ crcSum ((kAll D p).take t.1.size.toNat) = t.1.sum then (parseS ((kAll D p).take t.1.size.toNat)).map fun s => (t.1.n, t.1.hash, s) else none
def kNum : Option (Int × List UInt8 × Sta) → Int
 | some x => x.1
 | none => 0
def kMax (a b : Option (Int × List UInt8 × Sta)) : Option (Int × List UInt8 × Sta) := if kNum a < kNum b then b else a
def kGet (D : Dk) : Option (Int × List UInt8 × Sta) := kMax (if 0 < kNum (kAt D 0) then kAt D 0 else none) (kAt D 1)
theorem kAt_num {D : Dk} {p : Nat} {x : Int × List UInt8 × Sta} (h : kAt D p = some x) : (tiRd (D.at_ (131 + 96 * p))).2 = true ∧ x.1 = (tiRd (D.at_ (131 + 96 * p))).1.n ∧ x.1 % 2 = (p : Int) ∧ 1 ≤ x.1 := by
 unfold kAt at h
 simp only at h
 split at h
 ·rename_i hc
  obtain ⟨s, _, rfl⟩ := Option.map_eq_some_iff.1 h
  refine ⟨hc.1, rfl, hc.2.1, ?_⟩
  have h1 := hc.1
  unfold tiRd at h1 ⊢
  simp only [Bool.and_eq_true, decide_eq_true_eq] at h1
  exact h1.1.1.2
 ·cases h
def kWhole (f : List UInt8) : List UInt8 := f ++ List.replicate (6080 - f.length) 0
def kBlk (f : List UInt8) (k : Nat) : List UInt8 := ((kWhole f).drop (64 * k)).take 64
def kBlkN (f : List UInt8) (k : Nat) : List UInt8 := if k < 95 then kBlk f k else List.replicate 64 0
theorem kWhole_len {f : List UInt8} (h : f.length ≤ 6080) : (kWhole f).length = 6080 := by unfold kWhole; rw [List.length_append, List.length_replicate]; omega
theorem kBlk_len {f : List UInt8} (h : f.length ≤ 6080) {k : Nat} (hk : k < 95) : (kBlk f k).length = 64 := by
 unfold kBlk; rw [List.length_take, List.length_drop, kWhole_len h]; omega
theorem kBlkN_len {f : List UInt8} (h : f.length ≤ 6080) (k : Nat) : (kBlkN f k).length = 64 := by
 unfold kBlkN
 split
 ·exact kBlk_len h (by assumption)
 ·simp
def tiOf (n : Int) (hash f : List UInt8) : Ti := ⟨n, f.length, hash, crcSum f⟩
end
section
open Go.RowKit
def hN (D : Dk) (p : Nat) : Int := if (tiRd (D.at_ (131 + 96 * p))).2 = true then (tiRd (D.at_ (131 + 96 * p))).1.n else 0
def kPut (D : Dk) (p : Nat) (n : Int) (hash : List UInt8) (s : Sta) : Dk × Int := ckPut p (kBlkN (formS s)) (sealL 3 (tiOf n hash (formS s)).form) D
def plc (n : Int) : Nat := (n % 2).toNat
theorem plc_lt (n : Int) : plc n < 2 := by unfold plc; omega
theorem plc_mod (n : Int) : n % 2 = (plc n : Int) := by unfold plc; omega
theorem sealL_len' (m : List UInt8) (h : m.length ≤ 58) : (sealL 3 m).length = 64 := sealL_len 3 m h
theorem tiOf_len {n : Int} {hash f : List UInt8} (h : hash.length = 32) : (tiOf n hash f).form.length = 56 := (tiOf n hash f).form_len h
end
section
open Go.RowKit
theorem r25at (n : Int) (p : Nat) (w : World) (hn : n.tmod 2 = (p : Int)) (hp : p < 2) :
  Calls Tryz.prog 88 #[.int .i64 n] w fun e w' => e = .returned (.int .i64 ((131 + 96 * p : Nat) : Int)) ∧ w = w' := by
 have h1 : IntKind.i64.wrap (p : Int) = (p : Int) := Go.IntWalk.i64_in _ (by omega)
 have h2 : IntKind.i64.wrap (96 * (p : Int)) = 96 * (p : Int) := Go.IntWalk.i64_in _ (by omega)
 have h3 : IntKind.i64.wrap (131 + 96 * (p : Int)) = 131 + 96 * (p : Int) := Go.IntWalk.i64_in _ (by omega)
 have h4 : ((131 + 96 * p : Nat) : Int) = 131 + 96 * (p : Int) := by omega
 rw [h4]
 go_enter Tryz.func88, Tryz.ntmps88
 go_wp2_with fail
 go_ret
 simp only [hn, h1, h2, h3]
 refine ⟨?_, ?_⟩ <;> first | rfl | trivial
theorem r25Head (n : Int) (hash : List UInt8) (A : Option Addr) (f : List UInt8) (c : Nat) (w : World) (hh : hash.length = 32) (hr : Rd w A f) (hl : f.length ≤ 65536) :
  Calls Tryz.prog 89 #[.int .i64 n, .agg (tagA hash), .slice A f.length c] w (RetB w (sealL 3 (tiOf n hash f).form)) := by
 have HTs := Lh (tagA_size hash hh)
 have HTag := Lh (fun W => rTag hash W hh)
 have HI1 := Lh (fun W => rIntO n W)
 have HI2 := Lh (fun W => rInt (f.length : Int) W)
 have HI3 := Lh (fun W => rInt (crcSum f : Int) W)
 have HS := Lh (fun W (hg : Chg Non w W) => rSum A f c W (hr.non hg) (by omega))
 have hq := crcSum_lt f
 have HF : Hid ((tiOf n hash f).form = be (u64 n) 8 ++ be (u64 (f.length : Int)) 8 ++ hash ++ be (u64 (crcSum f : Int)) 8) := Lh (by unfold tiOf Ti.form wInt; simp)
 have hl1 : (be (u64 n) 8).length = 8 := be_length _ _
 have hl2 : (be (u64 (f.length : Int)) 8).length = 8 := be_length _ _
 have hl3 : (be (u64 (crcSum f : Int)) 8).length = 8 := be_length _ _
 rw [HF.out]
 obtain ⟨L1, hL1⟩ : ∃ L, be (u64 n) 8 = L := ⟨_, rfl⟩
 obtain ⟨L2, hL2⟩ : ∃ L, be (u64 (f.length : Int)) 8 = L := ⟨_, rfl⟩
 obtain ⟨L3, hL3⟩ : ∃ L, be (u64 (crcSum f : Int)) 8 = L := ⟨_, rfl⟩
 simp only [hL1, hL2, hL3] at hl1 hl2 hl3 HI1 HI2 HI3 ⊢
 obtain ⟨q, hqq⟩ : ∃ q : Int, (crcSum f : Int) = q := ⟨_, rfl⟩
 have hq0 : 0 ≤ q ∧ q < 4294967296 := by omega
 simp only [hqq] at HI3 HS
 have hqw : IntKind.i64.wrap q = q := Go.IntWalk.i64_in _ (by omega)
 have HHH := Lh hh
 have HL1 := Lh hl1
 have HL2 := Lh hl2
 have HL3 := Lh hl3
 have HQ := Lh hq0
 obtain ⟨XT, hXT⟩ : ∃ X, tagA hash = X := ⟨_, rfl⟩
 rw [hXT] at HTs ⊢
 simp only [hXT] at HTag
 clear hXT hL1 hL2 hL3 HF hh hl1 hl2 hl3 hqq hq0 hq hr
 obtain ⟨U, hU⟩ : ∃ U, w.alloc (.cells XT 28) = U := ⟨_, rfl⟩
 have hUw : Chg Non w U := by rw [← hU]; exact (Chg.refl Non w).alloc _
 have hX0 : U.heap[w.heap.size]? = some (.cells XT 28 (0, 0)) := by rw [← hU]; exact heap_alloc_new _ _
 have HU := Lh hUw
 have HX := Lh hX0
 clear hX0 hUw
 go_enter Tryz.func89, Tryz.ntmps89
 go_wp2_with fail
 refine (HI1.out _).mono ?_
 rintro e u1 ⟨v1, rfl, ho1, hg1⟩
 have hd1 : Chg Non U u1 := by first | exact hg1 | (rw [← hU]; exact hg1)
 have HO1 : Hid (OwnB U.heap.size u1 v1 L1) := Lh (by first | exact ho1 | (rw [← hU]; exact ho1))
 have HD1 := Lh hd1
 clear ho1 hg1 hd1
 go_wp2_with fail
 refine (HI2.out _).mono ?_
 rintro e u3 ⟨A3, c3, rfl, _, _, ho3, hg3⟩
 have HR3 := Lh ho3.rd
 have HD3 := Lh (HD1.out.then_non hg3)
 have HO3 := Lh (HO1.out.non hg3)
 clear ho3 hg3
 go_wp2_with (first
   | (refine sel (some 14) (.call { callee := .builtin .append, args := #[.tmp 10, .tmp 13], argTypes := #[29, 29] }) ?_
      refine Hole1.out ?_))
 refine ⟨?_⟩
 refine wpList_bytes rfl (.tmp 10) (.tmp 13) rfl U.heap.size v1 _ rfl HO3.out A3 L2 c3 rfl HR3.out (fun e => by have := HL2.out; rw [e] at this; cases this) (by rw [HL1.out]; omega) (by rw [HL2.out]; omega) HD3.out.size ?_
 intro v4 u4 ho4 hg4
 have hd4 : Chg Non U u4 := HD3.out.then_new hg4 (fun x e => e)
 have HO4 := Lh ho4
 have HD4 := Lh hd4
 have HRow := Lh (range_keepS (S := Non) (b := w.heap.size) (o := 0) (vs := XT.toList) (range_block HX.out) hd4 (fun e => e))
 clear ho4 hg4 hd4
 go_wp2_with (first
   | (refine sel (some 16) (.load 28 (.tmp 4)) ?_
      refine wpList_loadW (some 16) 28 (.tmp 4) w.heap.size 0 XT _ rfl rfl (by kernel_rfl) (by kernel_rfl) HRow.out Tryz.underlying28 rfl (by rw [HTs.out]; kernel_rfl) ?_))
 refine (HTag.out _).mono ?_
 rintro e u7 ⟨A7, c7, rfl, _, _, ho7, hg7⟩
 have HR7 := Lh ho7.rd
 have HD7 := Lh (HD4.out.then_non hg7)
 have HO7 := Lh (HO4.out.non hg7)
 clear ho7 hg7
 go_wp2_with (first
   | (refine sel (some 18) (.call { callee := .builtin .append, args := #[.tmp 15, .tmp 17], argTypes := #[29, 29] }) ?_
      refine Hole1.out ?_))
 refine ⟨?_⟩
 refine wpList_bytes rfl (.tmp 15) (.tmp 17) rfl U.heap.size v4 _ rfl HO7.out A7 hash c7 rfl HR7.out (fun e => by have := HHH.out; rw [e] at this; cases this) (by simp [HL1.out, HL2.out]) (by rw [HHH.out]; omega) HD7.out.size ?_
 intro v8 u8 ho8 hg8
 have hd8 : Chg Non U u8 := HD7.out.then_new hg8 (fun x e => e)
 have HO8 := Lh ho8
 have HD8 := Lh hd8
 have HS8 := Lh (HS.out u8 (HU.out.then_non hd8))
 clear ho8 hg8 hd8
 go_wp2_with fail
 refine HS8.out.mono ?_
 rintro e u9 ⟨rfl, rfl⟩
 go_wp2_with fail
 try simp only [hqw]
 refine (HI3.out _).mono ?_
 rintro e u9 ⟨A9, c9, rfl, _, _, ho9, hg9⟩
 have HR9 := Lh ho9.rd
 have HD9 := Lh (HD8.out.then_non hg9)
 have HO9 := Lh (HO8.out.non hg9)
 clear ho9 hg9
 go_wp2_with (first
   | (refine sel (some 24) (.call { callee := .builtin .append, args := #[.tmp 19, .tmp 23], argTypes := #[29, 29] }) ?_
      refine Hole1.out ?_))
 refine ⟨?_⟩
 refine wpList_bytes rfl (.tmp 19) (.tmp 23) rfl U.heap.size v8 _ rfl HO9.out A9 L3 c9 rfl HR9.out (fun e => by have := HL3.out; rw [e] at this; cases this) (by simp [HL1.out, HL2.out, HHH.out]) (by rw [HL3.out]; omega) HD9.out.size ?_
 intro va ua hoa hga
 have hda : Chg Non U ua := HD9.out.then_new hga (fun x e => e)
 obtain ⟨Aa, ca, rfl, _, _, how⟩ := hoa.slice
 have hlen : (L1 ++ L2 ++ hash ++ L3).length = 56 := by simp [HL1.out, HL2.out, HL3.out, HHH.out]
 have HSe := Lh (rSeal 3 Aa _ ca ua how.rd (fun e => by rw [e] at hlen; cases hlen) (by rw [hlen]; omega))
 have HDa := Lh (HU.out.then_non hda)
 rw [hlen] at HSe ⊢
 clear hoa hga hda how hlen
 go_wp2_with fail
 refine HSe.out.mono ?_
 rintro e ub ⟨Ab, cb, rfl, j1, j2, j3, j4⟩
 have hsl : (sealL 3 (L1 ++ L2 ++ hash ++ L3)).length = 64 := sealL_len _ _ (by simp [HL1.out, HL2.out, HL3.out, HHH.out])
 have HR := Lh (RetB.from (show RetB ua (sealL 3 (L1 ++ L2 ++ hash ++ L3)) (.returned (.slice Ab 64 cb)) ub from ⟨Ab, cb, by rw [hsl], j1, j2, j3, j4⟩) HDa.out)
 rw [hsl]
 clear j1 j2 j3 j4 hsl
 go_wp2_with fail
 go_ret
 exact HR.out
end
end Go.Proofs.YtkgnlobabknkcaaGreat
