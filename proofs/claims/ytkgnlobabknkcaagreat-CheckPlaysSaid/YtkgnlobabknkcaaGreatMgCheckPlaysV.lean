/- CheckPlays, part 22 of 27: contracts of the functions that it reaches, and the laws that they need, merged and shortened (from my texts XR21q). -/
import Derived.Test.YtkgnlobabknkcaaGreatMgCheckPlaysA
import Derived.Test.YtkgnlobabknkcaaGreatMgCheckPlaysC
import Derived.Test.YtkgnlobabknkcaaGreatMgCheckPlaysU
namespace Go.Proofs.YtkgnlobabknkcaaGreat
set_option linter.unusedVariables false
set_option linter.unusedSimpArgs false
set_option maxHeartbeats 8000000
set_option maxRecDepth 100000
section
open Go.RowKit
theorem many_wide {α : Type} (f : Rs → α × Rs) (hf : ∀ r, (f r).2.wide = r.wide) : ∀ (k : Nat) (s : Rs), (Rs.many f k s).2.wide = s.wide
 | 0, _ => rfl
 | k + 1, s => by
  show (Rs.many f k (f s).2).2.wide = s.wide
  rw [many_wide f hf, hf]
theorem qu_wide (r : Rs) : (Rs.qu r).2.wide = r.wide := by
 unfold Rs.qu Rs.rows
 simp only
 rw [many_wide Rs.bytes (fun _ => rfl)]
 rfl
theorem r21Parse (A : Option Addr) (l : List UInt8) (c : Nat) (w : World) (hr : Rd w A l) (hl : l.length ≤ 65536) :
  Calls Tryz.prog 99 #[.slice A l.length c] w fun e w' => (∃ s b d, parseS l = some s ∧ e = .returned (.tuple #[.agg #[.int .i64 s.frames, b, d], .int .i64 0]) ∧ StaV (From w.heap.size) w' s b d ∧ Chg Non w w') ∨
   (parseS l = none ∧ e = .returned (.tuple #[.agg zStC, .int .i64 210]) ∧ Chg Non w w') := by
 have HN := Lh (rNew A l c (w.alloc (.cells zStC 25)) (hr.non ((Chg.refl Non w).alloc _)) hl)
 have HPd := Lh (parseS_def l)
 have HL := Lh hl
 clear hr
 go_enter Tryz.func99, Tryz.ntmps99
 go_wp2_with fail
 refine HN.out.mono ?_
 rintro e w1 ⟨p, rfl, hI, hg⟩
 have hz := blk_keep (blk_new w (.cells zStC 25)) hg (fun e => e)
 obtain ⟨BL, hBL⟩ : ∃ BL : Nat → Prop, BL = (fun x => (w.alloc (.cells zStC 25)).heap.size ≤ x ∧ x < w1.heap.size) := ⟨_, rfl⟩
 have HBL : Hid (∀ x, BL x → w.heap.size < x ∧ x < w1.heap.size) := Lh (fun x h => by rw [hBL] at h; simp at h; omega)
 rw [← hBL] at hI
 have HR0 : Hid (RdR BL p w1 l ⟨l, 0, false⟩) := Lh ⟨0, hI, fun _ => ⟨rfl, Nat.zero_le _⟩⟩
 have HG1 : Hid (Chg Non w w1) := Lh (((Chg.refl Non w).alloc _).then_non hg)
 obtain ⟨b2, hb2⟩ : ∃ b, w.heap.size = b := ⟨_, rfl⟩
 rw [hb2] at hz ⊢
 have HB2 := Lh hb2
 have HZ1 := Lh hz
 clear hz hI hg hBL HN hb2
 have H1 := Lh (HR0.out.cInt hl)
 obtain ⟨⟨x1, r1⟩, hr1⟩ : ∃ y, Rs.int ⟨l, 0, false⟩ = y := ⟨_, rfl⟩
 have hx1 : I64 (Rs.int ⟨l, 0, false⟩).1 := rdInt_bd l 0
 have hw1 : (Rs.int ⟨l, 0, false⟩).2.wide = false := rfl
 rw [hr1] at H1 hx1 hw1
 have HR1 := Lh hr1
 simp only at H1 hx1 hw1
 have HX1 := Lh hx1
 have HW1 := Lh hw1
 clear hr1 hx1 hl hw1
 go_wp2_with fail
 refine H1.out.mono ?_
 rintro e w3 ⟨rfl, hs, hg⟩
 have hpb : b2 < p := by have := (HBL.out p (RdSt.ptr hs)).1; have := HB2.out; omega
 have HPB := Lh hpb
 have HS3 := Lh hs
 have HG3 : Hid (Chg Non w w3) := Lh (HG1.out.then_new hg (fun x e => by have e : x = p := e; have := HB2.out; omega))
 have HZ3 := Lh (blk_keep HZ1.out hg (fun e => by have e : b2 = p := e; omega))
 have HBs : Hid (∀ x, BL x → x < w3.heap.size) := Lh (fun x h => by have := (HBL.out x h).2; have := hg.size; omega)
 clear hs hg hpb
 -- the state
 have HH3 := Lh (show ∃ x, x = w3.heap.size from ⟨_, rfl⟩)
 go_wp2_with (refine sel none (.store 25 (.tmp 5) (.tmp 21)) ?_; refine wpList_store_rowA rfl 25 (.tmp 5) (.tmp 21) rfl w3.heap.size #[.int .i64 x1, .slice none 0 0, .slice none 0 0] rfl rfl 25 zStC (blk_new _ _) (by kernel_rfl) rfl (by kernel_rfl) ?_; intro W4 hgW hbW)
 have hg34 : Chg Non w3 W4 := ((Chg.refl Non w3).alloc _).then_new hgW (fun x e => by have e : x = w3.heap.size := e; omega)
 have HB4 : Hid (W4.heap[w3.heap.size]? = some (.cells #[.int .i64 x1, .slice none 0 0, .slice none 0 0] 25 (0, 0))) := Lh hbW
 have HS4 := Lh (HS3.out.non hg34)
 have HZ4 := Lh (blk_keep HZ3.out hg34 (fun e => e))
 have HG4 := Lh (HG3.out.then_non hg34)
 have H2 := Lh (HS4.out.cCount HL.out 6)
 have HCb : Hid ((r1.count 6).1 ≤ 6) := Lh (by have h := (count_bd 6 r1.l r1.er); unfold Rs.count; simp only; omega)
 have hw2 : (r1.count 6).2.wide = false := HW1.out
 obtain ⟨⟨n, r2⟩, hr2⟩ : ∃ y, r1.count 6 = y := ⟨_, rfl⟩
 rw [hr2] at H2 HCb hw2
 simp only at H2 HCb hw2
 have HW2 := Lh hw2
 clear hw2
 have HR2 := Lh hr2
 obtain ⟨bs, hbs⟩ : ∃ b, w3.heap.size = b := ⟨_, rfl⟩
 have HS34 : Hid (bs < W4.heap.size) := Lh (by rw [← hbs]; exact blk_lt HB4.out)
 rw [hbs] at HB4 HBs
 have HBS := Lh hbs
 clear hr2 hg34 HZ3 HG3 HS3 hbs hgW hbW HH3
 refine H2.out.mono ?_
 rintro e w5 ⟨rfl, hs, hg⟩
 have HS5 := Lh hs
 have HG5 : Hid (Chg (fun x => x = p ∨ x = bs) W4 w5) := Lh (hg.mono (fun x e => .inl e))
 have hpbs : p < bs := HBs.out p (RdSt.ptr hs)
 have HPS := Lh hpbs
 have HB5 : Hid (w5.heap[bs]? = some (.cells #[.int .i64 x1, .slice none 0 0, .slice none 0 0] 25 (0, 0))) := Lh (blk_keep HB4.out hg (fun e => by have e : bs = p := e; omega))
 obtain ⟨B, hB⟩ : ∃ B, W4.heap.size = B := ⟨_, rfl⟩
 have HBB : Hid (bs < B) := Lh (by rw [← hB]; exact HS34.out)
 clear hs hg H2 HB4 HS4 HR0 H1 hpbs
 try rw [HBS.out]
 go_wp2_with fail
 try rw [HBS.out]
 go_loopw [8, 6] (fun iv wv wr => ∃ (k : Nat) (y : Value), k ≤ n ∧ iv = .int .i64 k ∧ wv = .bool (Rs.many Rs.pt k r2).2.wide ∧ Hid (wr.heap[bs]? = some (.cells #[.int .i64 x1, y, .slice none 0 0] 25 (0, 0))) ∧ Hid (OwnL (ptV (Exc B y)) B 104 14 wr y (Rs.many Rs.pt k r2).1) ∧ Hid (RdR BL p wr l (Rs.many Rs.pt k r2).2) ∧ Hid (Chg (fun x => x = p ∨ x = bs) W4 wr)) (fun iv _ _ => n - (intOf iv).toNat)
 case atStart => exact ⟨0, _, Nat.zero_le _, rfl, by rw [show (Rs.many Rs.pt 0 r2).2 = r2 from rfl, HW2.out], HB5, Lh (OwnL.nil _ _ _ _ _), HS5, HG5⟩
 case round =>
  obtain ⟨k, y, hk, rfl, rfl, HBk, HO, HX, HG⟩ := hrel
  obtain ⟨wo, hwo⟩ : ∃ W, W = wr := ⟨_, rfl⟩
  subst hwo
  obtain ⟨A0, c0, hv0, hc0, hm0, _⟩ := HO.out.rd
  rw [many_len] at hv0 hc0
  subst hv0
  unfold maxLen at hm0
  by_cases hlt : k < n
  ·have hltd : decide ((k : Int) < (n : Int)) = true := by simpa using hlt
   have hms := many_succ Rs.pt k r2
   have HM := Lh hms
   have HLk := Lh (many_len Rs.pt k r2)
   obtain ⟨rk, hrk⟩ : ∃ r, (Rs.many Rs.pt k r2).2 = r := ⟨_, rfl⟩
   obtain ⟨L, hLq⟩ : ∃ r, (Rs.many Rs.pt k r2).1 = r := ⟨_, rfl⟩
   rw [hrk] at HX HM ⊢
   rw [hLq] at HO HM HLk
   clear hms hrk hLq
   have HPt : Hid (∀ q1 q2 q3 q4 q6 q7 y1 y2 y3 y4 y6 y7, rk.int = (y1, q1) → q1.int = (y2, q2) → q2.flag = (y3, q3) → Rs.many Rs.word 9 q3 = (y4, q4) → q4.byte = (y6, q6) → q6.bytes = (y7, q7) →
       Rs.pt rk = ({ wordsP y4 { id := y1, size := y2, keep := y3, r := [], pc := 0, st := y6.toNat, mem := y7 } with mem := y7 }, q7)) := Lh (by
     intro q1 q2 q3 q4 q6 q7 y1 y2 y3 y4 y6 y7 e1 e2 e3 e4 e6 e7
     have h8 := many_succ Rs.word 8 q3
     have hl8 := many_len Rs.word 8 q3
     rw [e4] at h8
     simp only at h8
     unfold Rs.pt Rs.words
     obtain ⟨⟨z4, t4⟩, hz4⟩ : ∃ z, Rs.many Rs.word 8 q3 = z := ⟨_, rfl⟩
     rw [hz4] at h8 hl8
     simp only at h8 hl8
     obtain ⟨⟨z5, t5⟩, hz5⟩ : ∃ z, t4.word = z := ⟨_, rfl⟩
     rw [hz5] at h8
     obtain ⟨h8a, h8b⟩ := h8
     subst h8a h8b
     simp only [e1, e2, e3, hz4, hz5, e6, e7]
     rw [← wordsP_pc hl8]
     unfold wordsP
     simp only [hl8, Nat.sub_self, List.replicate_zero, List.append_nil]
     rw [List.take_of_length_le (by omega)])
   have H3 := Lh (HX.out.cInt HL.out)
   have HY1 := Lh (show I64 rk.int.1 from rdInt_bd rk.l rk.er)
   have hwd : rk.int.2.wide = rk.wide := rfl
   obtain ⟨⟨y1, q1⟩, hq1⟩ : ∃ y, rk.int = y := ⟨_, rfl⟩
   rw [hq1] at H3 HY1 hwd
   simp only at H3 HY1 hwd
   have HQ1 := Lh hq1
   rw [← hwd]
   clear hq1 hwd
   go_wp2_with fail
   refine H3.out.mono ?_
   rintro e ua ⟨rfl, hs, hg⟩
   have HSa := Lh hs
   have HGa := Lh hg
   have hbso : bs < wo.heap.size := blk_lt HBk.out
   have HBl : Hid (∀ x, BL x → x < wo.heap.size) := Lh (fun x h => by have := HBs.out x h; omega)
   clear hs hg H3
   obtain ⟨C0, hC0⟩ : ∃ C, partC { id := y1, size := 0, keep := false, r := [0, 0, 0, 0, 0, 0, 0, 0], pc := 0, st := 0, mem := [] } (.slice none 0 0) = C := ⟨_, rfl⟩
   have hC0s : C0.size = 14 := by rw [← hC0]; rfl
   have hC01 : C0.all (·.oneCell') = true := by rw [← hC0]; exact partC_one _ _ rfl
   have HC0 := Lh hC0
   go_wp2_with (first
     | (refine sel (some 31) (.build 104 _) ?_; refine wpList_valA rfl (some 31) (.agg (partC { id := y1, size := 0, keep := false, r := [0, 0, 0, 0, 0, 0, 0, 0], pc := 0, st := 0, mem := [] } (.slice none 0 0))) rfl (by kernel_rfl) ?_; rw [HC0.out])
     | (refine sel none (.store 104 (.tmp 9) (.tmp 31)) ?_
        refine wpList_store_rowA rfl 104 (.tmp 9) (.tmp 31) rfl ua.heap.size C0 rfl rfl 104 _ (blk_new _ _) (by rw [hC0s]; exact info_part) (by rw [hC0s]; rfl) hC01 ?_
        intro ub hgW hbW
        have hgn : Chg Non ua ub := ((Chg.refl Non ua).alloc _).then_new hgW (fun x e => by omega)))
   have hP2 : PQ BL p ua.heap.size wo ub l q1 { id := y1, size := 0, keep := false, r := [0, 0, 0, 0, 0, 0, 0, 0], pc := 0, st := 0, mem := [] } (.slice none 0 0) :=
    ⟨HSa.out.non hgn, ⟨by unfold PartAt; rw [HC0.out]; exact hbW, rfl⟩, HGa.out.then_non hgn, HBl.out, HGa.out.size⟩
   obtain ⟨b9, hb9⟩ : ∃ b, ua.heap.size = b := ⟨_, rfl⟩
   rw [hb9] at hP2
   try rw [hb9]
   clear hgn hgW hbW hb9 HSa HGa hC0 hC0s hC01 HC0
   -- size
   have H4 := Lh (hP2.sr.cInt HL.out)
   have HP2 := Lh hP2
   have HY2 := Lh (show I64 q1.int.1 from rdInt_bd q1.l q1.er)
   have hwd : q1.int.2.wide = q1.wide := rfl
   obtain ⟨⟨y2, q2⟩, hq2⟩ : ∃ y, q1.int = y := ⟨_, rfl⟩
   rw [hq2] at H4 HY2 hwd
   simp only at H4 HY2 hwd
   have HQ2 := Lh hq2
   rw [← hwd]
   clear hq2 hwd hP2
   refine H4.out.mono ?_
   rintro e w3 ⟨rfl, hs, hg⟩
   have hP := HP2.out.call hs hg
   have hl3 := hP.pb.lt
   have f1 := hP.pb.frozen 1
   have c1 := hP.pb.cells.2.1
   have HP3 := Lh (hP.set 1 (.int .i64 y2) (hP.pb.setSize y2))
   clear hP H4 hs hg
   -- keep
   have H5 := Lh (HP3.out.sr.cFlag HL.out)
   have hwd : q2.flag.2.wide = q2.wide := rfl
   obtain ⟨⟨y3, q3⟩, hq3⟩ : ∃ y, q2.flag = y := ⟨_, rfl⟩
   rw [hq3] at H5 hwd
   simp only at H5 hwd
   have HQ3 := Lh hq3
   rw [← hwd]
   clear hq3 hwd
   go_wp2_with fail
   refine H5.out.mono ?_
   rintro e w4 ⟨rfl, hs, hg⟩
   have hP := HP3.out.call hs hg
   have hl4 := hP.pb.lt
   have f2 := hP.pb.frozen 2
   have c2 := hP.pb.cells.2.2.1
   have HP4 : Hid (PQ BL p b9 wo (w4.setCell ⟨b9, 2, none⟩ (.bool y3)) l q3 { id := y1, size := y2, keep := y3, r := [0, 0, 0, 0, 0, 0, 0, 0], pc := 0, st := 0, mem := [] } (.slice none 0 0)) := Lh (hP.set 2 (.bool y3) (hP.pb.setKeep y3))
   clear hP H5 HP3 c1 f1 hs hg
   go_wp2_with fail
   clear f2 c2
   go_loopw [10, 6] (fun iv wv wr => ∃ j : Nat, j ≤ 9 ∧ iv = .int .i64 j ∧ wv = .bool (Rs.many Rs.word j q3).2.wide ∧ Hid (PQ BL p b9 wo wr l (Rs.many Rs.word j q3).2 (wordsP (Rs.many Rs.word j q3).1 { id := y1, size := y2, keep := y3, r := [0, 0, 0, 0, 0, 0, 0, 0], pc := 0, st := 0, mem := [] }) (.slice none 0 0))) (fun iv _ _ => 9 - (intOf iv).toNat)
   case atStart => exact ⟨0, Nat.zero_le _, rfl, rfl, Lh (by rw [show (Rs.many Rs.word 0 q3).1 = [] from rfl, wordsP_zero _ rfl rfl]; exact HP4.out)⟩
   case round =>
    obtain ⟨j, hj, rfl, rfl, HPj⟩ := hrel
    have hms := many_succ Rs.word j q3
    have HMj := Lh hms
    have HLj := Lh (many_len Rs.word j q3)
    obtain ⟨qj, hqj⟩ : ∃ r, (Rs.many Rs.word j q3).2 = r := ⟨_, rfl⟩
    obtain ⟨Lj, hLj⟩ : ∃ r, (Rs.many Rs.word j q3).1 = r := ⟨_, rfl⟩
    have HQj := Lh hqj
    have HQL := Lh hLj
    rw [hqj] at HPj HMj ⊢
    rw [hLj] at HPj HMj HLj
    clear hms hqj hLj
    by_cases hlt : j < 9
    ·have hltd : decide ((j : Int) < 9) = true := by simp; omega
     have H6 := Lh (HPj.out.sr.cInt HL.out)
     have hvb : I64 qj.int.1 := rdInt_bd qj.l qj.er
     have hwe : qj.word = ((qj.int.1 % 4294967296).toNat, { qj.int.2 with wide := qj.wide || decide (qj.int.1 < 0) || decide (4294967296 ≤ qj.int.1) }) := rfl
     obtain ⟨⟨v, qn⟩, hqn⟩ : ∃ y, qj.int = y := ⟨_, rfl⟩
     rw [hqn] at H6 hvb hwe
     simp only at H6 hvb hwe
     rw [hwe] at HMj
     simp only at HMj
     obtain ⟨vn, hvn⟩ : ∃ x : Nat, (v % 4294967296).toNat = x := ⟨_, rfl⟩
     have hcv : IntKind.u32.wrap v = (vn : Int) := by
      rw [← hvn]
      show v % 4294967296 = _
      omega
     rw [hvn] at HMj
     obtain ⟨wd, hwd⟩ : ∃ b, qj.wide = b := ⟨_, rfl⟩
     rw [hwd] at HMj ⊢
     have HVB := Lh hvb
     clear hqn hwe hvn hwd hvb
     go_wp2_with fail
     refine H6.out.mono ?_
     rintro e w6 ⟨rfl, hs, hg⟩
     have hP := HPj.out.call hs hg
     have HP6 := Lh hP
     have hl6 := hP.pb.lt
     clear hs hg hP H6
     cases wd with
     | true =>
      have hw : (true || decide (v < 0) || decide (4294967296 ≤ v)) = true := by simp_all; try omega
      rw [hw] at HMj
      by_cases h8 : j < 8
      ·have h8d : decide ((j : Int) < 8) = true := by simp; omega
       have fr := HP6.out.pb.frozen (3 + j)
       have cr := HP6.out.pb.reg j h8
       have HP7 : Hid (PQ BL p b9 wo (w6.setCell ⟨b9, 3 + j, none⟩ (.int .u32 (vn : Nat))) l (Rs.many Rs.word (j + 1) q3).2 (wordsP (Rs.many Rs.word (j + 1) q3).1 { id := y1, size := y2, keep := y3, r := [0, 0, 0, 0, 0, 0, 0, 0], pc := 0, st := 0, mem := [] }) (.slice none 0 0)) := Lh (by
         have h := HP6.out.set (3 + j) (.int .u32 (vn : Nat)) (HP6.out.pb.setReg j vn h8)
         rw [HMj.out.1, HMj.out.2]
         have e := wordsP_reg (L := Lj) (pt := { id := y1, size := y2, keep := y3, r := [0, 0, 0, 0, 0, 0, 0, 0], pc := 0, st := 0, mem := [] }) (v := vn) (by rw [HLj.out]; exact h8)
         rw [HLj.out] at e
         rw [← e]
         exact h.re rfl rfl)
       have HWd := Lh (congrArg Rs.wide HMj.out.2)
       clear HMj
       go_wp2_with fail
       exact ⟨⟨j + 1, by omega, by simp, by rw [HWd.out], HP7⟩, by simp [intOf]; omega⟩
      ·obtain rfl : j = 8 := by omega
       have h8d : decide ((8 : Int) < 8) = false := by decide
       have fr := HP6.out.pb.frozen 11
       have cr := HP6.out.pb.cells.2.2.2.1
       have HP7 : Hid (PQ BL p b9 wo (w6.setCell ⟨b9, 11, none⟩ (.int .u32 (vn : Nat))) l (Rs.many Rs.word (8 + 1) q3).2 (wordsP (Rs.many Rs.word (8 + 1) q3).1 { id := y1, size := y2, keep := y3, r := [0, 0, 0, 0, 0, 0, 0, 0], pc := 0, st := 0, mem := [] }) (.slice none 0 0)) := Lh (by
         have h := HP6.out.set 11 (.int .u32 (vn : Nat)) (HP6.out.pb.setPc vn)
         rw [HMj.out.1, HMj.out.2]
         rw [wordsP_pc HLj.out] at h
         exact h.re rfl rfl)
       have HWd := Lh (congrArg Rs.wide HMj.out.2)
       clear HMj
       go_wp2_with fail
       exact ⟨⟨8 + 1, by omega, by simp, by rw [HWd.out], HP7⟩, by simp [intOf]⟩
     | false =>
      by_cases hn : v < 0
      ·have dn : decide (v < 0) = true := by simpa using hn
       have hw : (false || decide (v < 0) || decide (4294967296 ≤ v)) = true := by simp_all; try omega
       rw [hw] at HMj
       by_cases h8 : j < 8
       ·have h8d : decide ((j : Int) < 8) = true := by simp; omega
        have fr := HP6.out.pb.frozen (3 + j)
        have cr := HP6.out.pb.reg j h8
        have HP7 : Hid (PQ BL p b9 wo (w6.setCell ⟨b9, 3 + j, none⟩ (.int .u32 (vn : Nat))) l (Rs.many Rs.word (j + 1) q3).2 (wordsP (Rs.many Rs.word (j + 1) q3).1 { id := y1, size := y2, keep := y3, r := [0, 0, 0, 0, 0, 0, 0, 0], pc := 0, st := 0, mem := [] }) (.slice none 0 0)) := Lh (by
          have h := HP6.out.set (3 + j) (.int .u32 (vn : Nat)) (HP6.out.pb.setReg j vn h8)
          rw [HMj.out.1, HMj.out.2]
          have e := wordsP_reg (L := Lj) (pt := { id := y1, size := y2, keep := y3, r := [0, 0, 0, 0, 0, 0, 0, 0], pc := 0, st := 0, mem := [] }) (v := vn) (by rw [HLj.out]; exact h8)
          rw [HLj.out] at e
          rw [← e]
          exact h.re rfl rfl)
        have HWd := Lh (congrArg Rs.wide HMj.out.2)
        clear HMj
        go_wp2_with fail
        exact ⟨⟨j + 1, by omega, by simp, by rw [HWd.out], HP7⟩, by simp [intOf]; omega⟩
       ·obtain rfl : j = 8 := by omega
        have h8d : decide ((8 : Int) < 8) = false := by decide
        have fr := HP6.out.pb.frozen 11
        have cr := HP6.out.pb.cells.2.2.2.1
        have HP7 : Hid (PQ BL p b9 wo (w6.setCell ⟨b9, 11, none⟩ (.int .u32 (vn : Nat))) l (Rs.many Rs.word (8 + 1) q3).2 (wordsP (Rs.many Rs.word (8 + 1) q3).1 { id := y1, size := y2, keep := y3, r := [0, 0, 0, 0, 0, 0, 0, 0], pc := 0, st := 0, mem := [] }) (.slice none 0 0)) := Lh (by
          have h := HP6.out.set 11 (.int .u32 (vn : Nat)) (HP6.out.pb.setPc vn)
          rw [HMj.out.1, HMj.out.2]
          rw [wordsP_pc HLj.out] at h
          exact h.re rfl rfl)
        have HWd := Lh (congrArg Rs.wide HMj.out.2)
        clear HMj
        go_wp2_with fail
        exact ⟨⟨8 + 1, by omega, by simp, by rw [HWd.out], HP7⟩, by simp [intOf]⟩
      have dn : decide (v < 0) = false := by simpa using hn
      by_cases hn2 : 4294967295 < v
      ·have dn2 : decide (4294967295 < v) = true := by simpa using hn2
       have hw : (false || decide (v < 0) || decide (4294967296 ≤ v)) = true := by simp_all; try omega
       rw [hw] at HMj
       by_cases h8 : j < 8
       ·have h8d : decide ((j : Int) < 8) = true := by simp; omega
        have fr := HP6.out.pb.frozen (3 + j)
        have cr := HP6.out.pb.reg j h8
        have HP7 : Hid (PQ BL p b9 wo (w6.setCell ⟨b9, 3 + j, none⟩ (.int .u32 (vn : Nat))) l (Rs.many Rs.word (j + 1) q3).2 (wordsP (Rs.many Rs.word (j + 1) q3).1 { id := y1, size := y2, keep := y3, r := [0, 0, 0, 0, 0, 0, 0, 0], pc := 0, st := 0, mem := [] }) (.slice none 0 0)) := Lh (by
          have h := HP6.out.set (3 + j) (.int .u32 (vn : Nat)) (HP6.out.pb.setReg j vn h8)
          rw [HMj.out.1, HMj.out.2]
          have e := wordsP_reg (L := Lj) (pt := { id := y1, size := y2, keep := y3, r := [0, 0, 0, 0, 0, 0, 0, 0], pc := 0, st := 0, mem := [] }) (v := vn) (by rw [HLj.out]; exact h8)
          rw [HLj.out] at e
          rw [← e]
          exact h.re rfl rfl)
        have HWd := Lh (congrArg Rs.wide HMj.out.2)
        clear HMj
        go_wp2_with fail
        exact ⟨⟨j + 1, by omega, by simp, by rw [HWd.out], HP7⟩, by simp [intOf]; omega⟩
       ·obtain rfl : j = 8 := by omega
        have h8d : decide ((8 : Int) < 8) = false := by decide
        have fr := HP6.out.pb.frozen 11
        have cr := HP6.out.pb.cells.2.2.2.1
        have HP7 : Hid (PQ BL p b9 wo (w6.setCell ⟨b9, 11, none⟩ (.int .u32 (vn : Nat))) l (Rs.many Rs.word (8 + 1) q3).2 (wordsP (Rs.many Rs.word (8 + 1) q3).1 { id := y1, size := y2, keep := y3, r := [0, 0, 0, 0, 0, 0, 0, 0], pc := 0, st := 0, mem := [] }) (.slice none 0 0)) := Lh (by
          have h := HP6.out.set 11 (.int .u32 (vn : Nat)) (HP6.out.pb.setPc vn)
          rw [HMj.out.1, HMj.out.2]
          rw [wordsP_pc HLj.out] at h
          exact h.re rfl rfl)
        have HWd := Lh (congrArg Rs.wide HMj.out.2)
        clear HMj
        go_wp2_with fail
        exact ⟨⟨8 + 1, by omega, by simp, by rw [HWd.out], HP7⟩, by simp [intOf]⟩
      ·have dn2 : decide (4294967295 < v) = false := by simpa using hn2
       have hw : (false || decide (v < 0) || decide (4294967296 ≤ v)) = false := by simp_all; try omega
       rw [hw] at HMj
       by_cases h8 : j < 8
       ·have h8d : decide ((j : Int) < 8) = true := by simp; omega
        have fr := HP6.out.pb.frozen (3 + j)
        have cr := HP6.out.pb.reg j h8
        have HP7 : Hid (PQ BL p b9 wo (w6.setCell ⟨b9, 3 + j, none⟩ (.int .u32 (vn : Nat))) l (Rs.many Rs.word (j + 1) q3).2 (wordsP (Rs.many Rs.word (j + 1) q3).1 { id := y1, size := y2, keep := y3, r := [0, 0, 0, 0, 0, 0, 0, 0], pc := 0, st := 0, mem := [] }) (.slice none 0 0)) := Lh (by
          have h := HP6.out.set (3 + j) (.int .u32 (vn : Nat)) (HP6.out.pb.setReg j vn h8)
          rw [HMj.out.1, HMj.out.2]
          have e := wordsP_reg (L := Lj) (pt := { id := y1, size := y2, keep := y3, r := [0, 0, 0, 0, 0, 0, 0, 0], pc := 0, st := 0, mem := [] }) (v := vn) (by rw [HLj.out]; exact h8)
          rw [HLj.out] at e
          rw [← e]
          exact h.re rfl rfl)
        have HWd := Lh (congrArg Rs.wide HMj.out.2)
        clear HMj
        go_wp2_with fail
        exact ⟨⟨j + 1, by omega, by simp, by rw [HWd.out], HP7⟩, by simp [intOf]; omega⟩
       ·obtain rfl : j = 8 := by omega
        have h8d : decide ((8 : Int) < 8) = false := by decide
        have fr := HP6.out.pb.frozen 11
        have cr := HP6.out.pb.cells.2.2.2.1
        have HP7 : Hid (PQ BL p b9 wo (w6.setCell ⟨b9, 11, none⟩ (.int .u32 (vn : Nat))) l (Rs.many Rs.word (8 + 1) q3).2 (wordsP (Rs.many Rs.word (8 + 1) q3).1 { id := y1, size := y2, keep := y3, r := [0, 0, 0, 0, 0, 0, 0, 0], pc := 0, st := 0, mem := [] }) (.slice none 0 0)) := Lh (by
          have h := HP6.out.set 11 (.int .u32 (vn : Nat)) (HP6.out.pb.setPc vn)
          rw [HMj.out.1, HMj.out.2]
          rw [wordsP_pc HLj.out] at h
          exact h.re rfl rfl)
        have HWd := Lh (congrArg Rs.wide HMj.out.2)
        clear HMj
        go_wp2_with fail
        exact ⟨⟨8 + 1, by omega, by simp, by rw [HWd.out], HP7⟩, by simp [intOf]⟩
    ·obtain rfl : j = 9 := by omega
     have hltd : decide ((9 : Int) < 9) = false := by decide
     have H7 := Lh (HPj.out.sr.cByte HL.out)
     have hwb := words_bd 9 q3
     rw [HQL.out] at hwb
     have HWB := Lh hwb
     have hwd : qj.byte.2.wide = qj.wide := rfl
     obtain ⟨⟨y6, q6⟩, hq6⟩ : ∃ y, qj.byte = y := ⟨_, rfl⟩
     rw [hq6] at H7 hwd
     simp only at H7 hwd
     have HQ6 := Lh hq6
     rw [← hwd]
     clear hq6 hwd hwb HMj
     go_wp2_with fail
     refine H7.out.mono ?_
     rintro e w7 ⟨rfl, hs, hg⟩
     have hP := HPj.out.call hs hg
     have hl7 := hP.pb.lt
     have f12 := hP.pb.frozen 12
     have c12 := hP.pb.cells.2.2.2.2.1
     have HP7 := Lh (hP.set 12 (.int .u8 (y6.toNat : Nat)) (hP.pb.setSt y6.toNat))
     clear hP H7 hs hg
     obtain ⟨W8, hW8⟩ : ∃ W, w7.setCell ⟨b9, 12, none⟩ (.int .u8 (y6.toNat : Nat)) = W := ⟨_, rfl⟩
     rw [hW8] at HP7
     have H8 := Lh (((HP7.out.sr).non ((Chg.refl Non W8).alloc (.cells #[] 5))).cBytes HL.out)
     have hlm : q6.bytes.1.length ≤ 65536 := rdBytes_bd q6.l q6.er
     have hwd : q6.bytes.2.wide = q6.wide := rfl
     obtain ⟨⟨y7, q7⟩, hq7⟩ : ∃ y, q6.bytes = y := ⟨_, rfl⟩
     rw [hq7] at H8 hwd hlm
     simp only at H8 hwd hlm
     have HQ7 := Lh hq7
     rw [← hwd]
     clear hq7 hwd
     go_wp2_with fail
     try rw [hW8]
     refine H8.out.mono ?_
     rintro e u1 ⟨⟨Am, cm, rfl, hn0, hc1, hc2, ho⟩, hs, hg⟩
     have hP := (HP7.out.non ((Chg.refl Non W8).alloc (.cells #[] 5))).call hs hg
     have HP8 := Lh hP
     have hb98 : b9 < W8.heap.size := HP7.out.pb.lt
     have hbp : W8.heap.size ≠ p := fun e => by have := HP7.out.sr.lt; omega
     have hbe := blk_keep (blk_new W8 (.cells #[] 5)) hg hbp
     have HOE := Lh (ownB_none W8.heap.size u1 W8.heap.size (Nat.le_refl _) hbe)
     have HRm := Lh ho.rd
     have HNm := Lh hn0
     have hl8 : W8.heap.size ≤ u1.heap.size := by have := hg.size; simp at this; omega
     obtain ⟨g8, hg8⟩ : ∃ g, W8.heap.size = g := ⟨_, rfl⟩
     rw [hg8] at HOE hb98 hl8
     try rw [hg8]
     clear hs hg ho hn0 hP hbe hbp c12 f12
     go_wp2_with (refine sel (some 69) (.call { callee := .builtin .append, args := #[.tmp 66, .tmp 68], argTypes := #[29, 29] }) ?_; refine Hole1.out ?_)
     refine ⟨?_⟩
     refine wpList_bytes rfl (.tmp 66) (.tmp 68) rfl g8 _ [] rfl HOE.out Am y7 cm rfl HRm.out HNm.out (by simp) (by omega) hl8 ?_
     intro v8 w8 ho hg
     rw [List.nil_append] at ho
     obtain ⟨A9, c9, rfl, h91, h92, h93⟩ := ho.slice
     have HBy := Lh (own_bytes h93 h91 h92)
     have hP := HP8.out.new hg hb98
     have hl9 := hP.pb.lt
     have f13 := hP.pb.frozen 13
     have c13 := hP.pb.cells.2.2.2.2.2
     have HP9 := Lh (hP.set 13 (.slice A9 y7.length c9) ((hP.pb.setMem (.slice A9 y7.length c9)).setList y7))
     have hst := setAt w8 b9 13 (.slice A9 y7.length c9)
     have HBy2 := Lh (HBy.out.keep hst (fun b e e2 => by have e2 : b = b9 := e2; have e : g8 ≤ b := e; omega))
     clear hP ho hg h91 h92 h93 hst HBy HRm HNm HOE hl8
     have hbd := wordsP_bd (pt := { id := y1, size := y2, keep := y3, r := [0, 0, 0, 0, 0, 0, 0, 0], pc := 0, st := 0, mem := [] }) (by have := many_len Rs.word 9 q3; rw [HQL.out] at this; exact this) HWB.out
     have hmany : Rs.many Rs.word 9 q3 = (Lj, qj) := Prod.ext HQL.out HQj.out
     have hptq := HPt.out q1 q2 q3 qj q6 q7 y1 y2 y3 Lj y6 y7 HQ1.out HQ2.out HQ3.out hmany HQ6.out HQ7.out
     obtain ⟨W9, hW9⟩ : ∃ W, w8.setCell ⟨b9, 13, none⟩ (.slice A9 y7.length c9) = W := ⟨_, rfl⟩
     rw [hW9] at HP9 HBy2
     obtain ⟨pt, hpt⟩ : ∃ x : Pt, { wordsP Lj { id := y1, size := y2, keep := y3, r := [0, 0, 0, 0, 0, 0, 0, 0], pc := 0, st := y6.toNat, mem := y7 } with mem := y7 } = x := ⟨_, rfl⟩
     have HP10 : Hid (PQ BL p b9 wo W9 l q7 pt (.slice A9 y7.length c9)) := Lh (by rw [← hpt]; exact HP9.out.re rfl rfl)
     have hptB : pt.Bd := by
      rw [← hpt]
      exact ⟨hbd.1, hbd.2.1, hbd.2.2, by have := y6.toNat_lt; show y6.toNat < 256; omega, HY1.out, HY2.out⟩
     have hptm : pt.mem = y7 := by rw [← hpt]
     have HPtq : Hid (Rs.pt rk = (pt, q7)) := Lh (by rw [← hpt]; exact hptq)
     have hbk := blk_keep HBk.out HP10.out.chg (fun e => by have e : bs = p := e; have := HPS.out; omega)
     have k1 := blk_cell hbk 1 (v := .slice A0 k c0) rfl
     have HRG : Hid (W9.rangeAt b9 0 (partL pt (.slice A9 y7.length c9))) := Lh (by have := blk_range HP10.out.pb.out; exact this)
     have hlb : bs < W9.heap.size := blk_lt hbk
     have hl10 := HP10.out.pb.lt
     have hcl : (partL pt (.slice A9 y7.length c9)).length = 14 := by simp [partL, hptB.r8]
     have HCl := Lh hcl
     have HPB := Lh (And.intro hptB (And.intro hptm hlm))
     obtain ⟨PL, hPL⟩ : ∃ x, partL pt (.slice A9 y7.length c9) = x := ⟨_, rfl⟩
     rw [hPL] at HRG HCl
     have HPLq := Lh hPL
     obtain ⟨C, hC⟩ : ∃ C, PL.toArray = C := ⟨_, rfl⟩
     have hCs : C.size = 14 := by rw [← hC, List.size_toArray, ← hPL, hcl]
     have hC1 : C.all (·.oneCell') = true := by rw [← hC, ← hPL]; exact partC_one _ _ rfl
     have HBk9 := Lh hbk
     clear hpt hptq hmany hbd hptB hptm HP9 hcl hPL hbk hlm
     go_wp2_with (first
       | (refine sel (some 73) (.load 104 _) ?_; refine wpList_load_mid rfl 104 (.tmp 9) rfl b9 0 rfl PL _ HRG.out Tryz.underlying104 rfl (by rw [HCl.out]; exact info_part) ?_)
       | (refine sel (some 75) (.call _) ?_; refine Vm_stop ?_))
     refine HoleV.mk ?_
     rw [fold_all _ C 14 rfl hCs]
     have hal : Chg Non W9 (W9.alloc (.cells C 104)) := (Chg.refl Non W9).alloc _
     have hgW : Chg (fun x => x = p) wo W9 := HP10.out.chg
     have hBo : B ≤ wo.heap.size := by have := HG.out.size; omega
     have hge : ∀ g, (Value.slice A0 k c0).ownBlock = some g → B ≤ g ∧ g < wo.heap.size := fun g e => HO.out.ge e
     have hpB : p < B := by have := HPS.out; have := HBB.out; omega
     have hO9 : OwnL (ptV (fun b => Exc B (.slice A0 k c0) b ∧ b < wo.heap.size)) B 104 14 W9 (.slice A0 k c0) L :=
      (HO.out.mono (fun _ _ h => h.bound)).keep hgW (fun g e e2 => by have := (hge g e).1; have e2 : g = p := e2; omega) (fun a vs h => h.keep hgW (fun b hb e2 => by have := hb.1.1; have e2 : b = p := e2; omega))
     refine wpList_snocL (ptV (fun b => Exc B (.slice A0 k c0) b ∧ b < W9.heap.size)) rfl (.tmp 72) (.tmp 74) 22 rfl B 104 _ 14 88 Tryz.underlying22 info_clPt rfl (by omega) (.slice A0 k c0) L rfl ((hO9.mono (fun _ _ h => h.mono (fun b e => ⟨e.1, by have := e.2; have := hgW.size; omega⟩))).non hal (fun _ _ h => h.keep hal (fun _ _ e => e))) W9.heap.size pt C 104 rfl (blk_new _ _) hCs hC1 (by rw [HLk.out]; have := HCb.out; omega) (by omega) (by have := hgW.size; simp; omega)
      (fun w' a vs hg h => h.keep hg (fun b hb e => hb.1.2 e)) ?_ ?_
     ·refine ptV.keep ?_ hal (fun _ _ e => e)
      refine ⟨.slice A9 y7.length c9, by rw [HPLq.out, ← hC], ?_, HPB.out.1, by rw [HPB.out.2.1]; have := HPB.out.2.2; omega⟩
      rw [HPB.out.2.1]
      refine (HBy2.out.bound).mono (fun b hb => ⟨⟨?_, fun e => ?_⟩, hb.2⟩)
      ·have h1 : g8 ≤ b := hb.1
       have := HP10.out.b0
       omega
      ·have h1 : g8 ≤ b := hb.1
       have h2 := (hge b e).2
       have := HP10.out.b0
       omega
     intro v2 w2 ho hg hv
     have hsz9 : (W9.alloc (.cells C 104)).heap.size = W9.heap.size + 1 := by simp
     have hho : OwnL (ptV (Exc B v2)) B 104 14 w2 v2 (L ++ [pt]) := ho.mono (fun a vs h => h.mono (fun b e => ⟨e.1.1, fun e2 => by
       rcases hv b e2 with e3 | e3
       · exact e.1.2 e3
       · have := e.2; omega⟩))
     obtain ⟨L', hL'⟩ : ∃ x, L ++ [pt] = x := ⟨_, rfl⟩
     rw [hL'] at hho
     have hbk2 := blk_keep (blk_keep HBk9.out hal (fun e => e)) hg (fun e => by have := (hge _ e).1; have := HBB.out; omega)
     have hx2 := (HP10.out.sr.non hal).keep hg (fun x e hx => by have := (hge x e).1; have := HBs.out x hx; have := HBB.out; omega)
     have hg2 : Chg (fun x => x = p ∨ x = bs) W4 w2 := ((HG.out.trans_same (hgW.mono (fun x e => .inl e))).then_non hal).then_new hg (fun x e => by have := (hge x e).1; omega)
     obtain ⟨A2, c2, rfl, _⟩ := hho.rd
     have hst := setAt w2 bs 1 (.slice A2 L'.length c2)
     have f1 := blk_free hbk2 1
     have c1 := blk_cell hbk2 1 (v := .slice A0 k c0) rfl
     have hl2 := blk_lt hbk2
     have HM1 : Hid ((Rs.many Rs.pt (k + 1) r2).1 = L') := Lh (by rw [HM.out.1, HPtq.out, hL'])
     have HM2 : Hid ((Rs.many Rs.pt (k + 1) r2).2 = q7) := Lh (by rw [HM.out.2, HPtq.out])
     have HB10 := Lh (blk_set 1 (.slice A2 L'.length c2) hbk2)
     have HO10 := Lh (hho.keep hst (fun g e e2 => by have := (hho.ge e).1; have e2 : g = bs := e2; have := HBB.out; omega) (fun a vs h => h.keep hst (fun b hb e2 => by have := hb.1; have e2 : b = bs := e2; have := HBB.out; omega)))
     have HX10 := Lh (hx2.keep hst (fun x e hx => by have e : x = bs := e; have := HBs.out x hx; omega))
     have HG10 := Lh (hg2.trans_same (hst.mono (fun x e => .inr e)))
     have hn6 := HCb.out
     clear ho hg hv hho hbk2 hx2 hg2 hst hO9 hge hgW hal hL'
     go_wp2_with fail
     refine ⟨⟨k + 1, .slice A2 L'.length c2, by omega, by simp, ?_, HB10, ?_, ?_, HG10⟩, by simp [intOf]; omega⟩
     ·rw [HM2.out]
     ·rw [HM1.out]; exact HO10
     ·rw [HM2.out]; exact HX10
  ·obtain rfl : k = n := by omega
   have hltd : decide ((k : Int) < (k : Int)) = false := by simp
   have hbso : bs < wo.heap.size := blk_lt HBk.out
   have HPs0 := (OwnL.slV relPt HO.out (Nat.le_refl B)).bound (R' := ptV (fun b => From B b ∧ b < wo.heap.size)) (by omega) (fun _ _ _ h => h.bound)
   have HWk := Lh (show (Rs.many Rs.pt k r2).2.wide = (Rs.many Rs.pt k r2).2.wide from rfl)
   have hlk := many_len Rs.pt k r2
   have hrows : Rs.rows 6 Rs.pt r1 = Rs.many Rs.pt k r2 := by unfold Rs.rows; rw [HR2.out]
   obtain ⟨⟨x2, r3⟩, hr3⟩ : ∃ y, Rs.many Rs.pt k r2 = y := ⟨_, rfl⟩
   rw [hr3] at hrows HX hlk HPs0 ⊢
   simp only at HX hlk HPs0 ⊢
   have HRw2 := Lh hrows
   have HPs := Lh HPs0
   obtain ⟨B2, hB2⟩ : ∃ b, wo.heap.size = b := ⟨_, rfl⟩
   rw [hB2] at HPs
   have HB2w := Lh hB2
   have H3 := Lh (HX.out.cCount HL.out 8)
   have HCb2 : Hid ((r3.count 8).1 ≤ 8) := Lh (by have h := (count_bd 8 r3.l r3.er); unfold Rs.count; simp only; omega)
   have hwd : (r3.count 8).2.wide = r3.wide := rfl
   obtain ⟨⟨n2, r4⟩, hr4⟩ : ∃ y, r3.count 8 = y := ⟨_, rfl⟩
   rw [hr4] at H3 HCb2 hwd
   simp only at H3 HCb2 hwd
   have HR4 := Lh hr4
   have HWd := Lh hwd
   have hBB := HBB.out
   have hBB2 : B ≤ B2 := by rw [← hB2]; have := HG.out.size; omega
   clear hr4 hr3 hrows HPs0 hwd HO hB2 HWk
   go_wp2_with fail
   refine H3.out.mono ?_
   rintro e w5' ⟨rfl, hs, hg⟩
   have HX5 := Lh hs
   have HB5' := Lh (blk_keep HBk.out hg (fun e => by have e : bs = p := e; have := HPS.out; omega))
   have HPs5 := Lh (HPs.out.keep hg (fun b h e => by have e : b = p := e; have h1 : B ≤ b := h.1; have := HPS.out; omega) (fun a vs _ h => h.keep hg (fun b h e => by have e : b = p := e; have h1 : B ≤ b := h.1; have := HPS.out; omega)))
   have HG5' := Lh (HG.out.trans_same (hg.mono (fun x e => .inl e)))
   have hs5 : B2 ≤ w5'.heap.size := by have := hg.size; have := HB2w.out; omega
   clear hs hg H3 HBk HPs HG HX hbso HB5 HG5 HS5
   go_wp2_with fail
   go_loopw [12] (fun iv wr => ∃ (k : Nat) (y : Value), k ≤ n2 ∧ iv = .int .i64 k ∧ Hid (wr.heap[bs]? = some (.cells #[.int .i64 x1, .slice A0 x2.length c0, y] 25 (0, 0))) ∧ Hid (SlV (ptV (fun b => From B b ∧ b < B2)) (fun b => From B b ∧ b < B2) 14 wr x2 (.slice A0 x2.length c0)) ∧ Hid (OwnL (quV (Exc B2 y)) B2 110 6 wr y (Rs.many Rs.qu k r4).1) ∧ Hid (RdR BL p wr l (Rs.many Rs.qu k r4).2) ∧ Hid (Chg (fun x => x = p ∨ x = bs) W4 wr) ∧ Hid (B2 ≤ wr.heap.size)) (fun iv _ => n2 - (intOf iv).toNat)
   case atStart =>
    rw [← hlk] at HB5' HPs5
    exact ⟨0, _, Nat.zero_le _, rfl, HB5', HPs5, Lh (OwnL.nil _ _ _ _ _), HX5, HG5', Lh hs5⟩
   case round =>
    clear HB5' HPs5 HX5 HG5' hs5 hc0
    obtain ⟨k, y, hk, rfl, HBk, HPs, HO, HX, HG, HSz⟩ := hrel
    obtain ⟨wo, hwo⟩ : ∃ W, W = wr := ⟨_, rfl⟩
    subst hwo
    obtain ⟨A1, c1, hv1, hc1, hm1, _⟩ := HO.out.rd
    rw [many_len] at hv1 hc1
    subst hv1
    unfold maxLen at hm1
    by_cases hlt : k < n2
    ·have hltd : decide ((k : Int) < (n2 : Int)) = true := by simpa using hlt
     have hms := many_succ Rs.qu k r4
     have HM := Lh hms
     have HLk := Lh (many_len Rs.qu k r4)
     obtain ⟨rk, hrk⟩ : ∃ r, (Rs.many Rs.qu k r4).2 = r := ⟨_, rfl⟩
     obtain ⟨L, hLq⟩ : ∃ r, (Rs.many Rs.qu k r4).1 = r := ⟨_, rfl⟩
     rw [hrk] at HX HM
     rw [hLq] at HO HM HLk
     have HQ : Hid (∀ q1 q2 q3 q4 q5 q6 y1 y2 y3 y4 y5 y6, rk.int = (y1, q1) → q1.int = (y2, q2) → q2.int = (y3, q3) → q3.int = (y4, q4) → q4.int = (y5, q5) → Rs.rows 4 Rs.bytes q5 = (y6, q6) → Rs.qu rk = (⟨⟨y1, y2, y3, y4, y5⟩, y6⟩, q6)) := Lh (by
       intro r1 r2 r3 r4 r5 r6 x1 x2 x3 x4 x5 x6 e1 e2 e3 e4 e5 e6
       unfold Rs.qu
       simp only [e1, e2, e3, e4, e5, e6])
     clear hms hrk hLq
     have H4 := Lh (HX.out.cInt HL.out)
     have HY1 := Lh (show I64 rk.int.1 from rdInt_bd rk.l rk.er)
     obtain ⟨⟨y1, q1⟩, hq1⟩ : ∃ y, rk.int = y := ⟨_, rfl⟩
     rw [hq1] at H4 HY1
     simp only at H4 HY1
     have HQ1 := Lh hq1
     clear hq1
     go_wp2_with fail
     refine H4.out.mono ?_
     rintro e ua ⟨rfl, hs, hg⟩
     have HSa := Lh hs
     have HGa := Lh hg
     have hbso : bs < wo.heap.size := blk_lt HBk.out
     have HBl : Hid (∀ x, BL x → x < wo.heap.size) := Lh (fun x h => by have := HBs.out x h; omega)
     clear hs hg H4
     go_wp2_with fail
     obtain ⟨ub, hub⟩ : ∃ W, ua.alloc (.cells #[.int .i64 y1, .int .i64 0, .int .i64 0, .int .i64 0, .int .i64 0] 107) = W := ⟨_, rfl⟩
     have hgn : Chg Non ua ub := by rw [← hub]; exact (Chg.refl Non ua).alloc _
     have hbW : ub.heap[ua.heap.size]? = some (.cells #[.int .i64 y1, .int .i64 0, .int .i64 0, .int .i64 0, .int .i64 0] 107 (0, 0)) := by rw [← hub]; exact blk_new _ _
     rw [hub]
     have hP1 : CQ BL p ua.heap.size wo ub l q1 #[.int .i64 y1, .int .i64 0, .int .i64 0, .int .i64 0, .int .i64 0] :=
      ⟨HSa.out.non hgn, hbW, HGa.out.then_non hgn, HBl.out, HGa.out.size⟩
     obtain ⟨b9, hb9⟩ : ∃ b, ua.heap.size = b := ⟨_, rfl⟩
     rw [hb9] at hP1
     try rw [hb9]
     have HP1 := Lh hP1
     clear hgn hbW hb9 HSa HGa hP1 hub
     have H2 := Lh (HP1.out.sr.cInt HL.out)
     have HY2 := Lh (show I64 q1.int.1 from rdInt_bd q1.l q1.er)
     obtain ⟨⟨y2, q2⟩, hq2⟩ : ∃ y, q1.int = y := ⟨_, rfl⟩
     rw [hq2] at H2 HY2
     simp only at H2 HY2
     have HQ2 := Lh hq2
     clear hq2
     skip
     refine H2.out.mono ?_
     rintro e v2 ⟨rfl, hs, hg⟩
     have hP := HP1.out.call hs hg
     have hl2 := blk_lt hP.cb
     have f2 := blk_free hP.cb 1
     have g2 := blk_cell hP.cb 1 (v := .int .i64 0) rfl
     have HP2 : Hid (CQ BL p b9 wo (v2.setCell ⟨b9, 1, none⟩ (.int .i64 y2)) l q2 #[.int .i64 y1, .int .i64 y2, .int .i64 0, .int .i64 0, .int .i64 0]) := Lh (hP.set 1 (.int .i64 y2))
     clear hP H2 hs hg HP1
     have H3 := Lh (HP2.out.sr.cInt HL.out)
     have HY3 := Lh (show I64 q2.int.1 from rdInt_bd q2.l q2.er)
     obtain ⟨⟨y3, q3⟩, hq3⟩ : ∃ y, q2.int = y := ⟨_, rfl⟩
     rw [hq3] at H3 HY3
     simp only at H3 HY3
     have HQ3 := Lh hq3
     clear hq3
     go_wp2_with fail
     refine H3.out.mono ?_
     rintro e v3 ⟨rfl, hs, hg⟩
     have hP := HP2.out.call hs hg
     have hl3 := blk_lt hP.cb
     have f3 := blk_free hP.cb 2
     have g3 := blk_cell hP.cb 2 (v := .int .i64 0) rfl
     have HP3 : Hid (CQ BL p b9 wo (v3.setCell ⟨b9, 2, none⟩ (.int .i64 y3)) l q3 #[.int .i64 y1, .int .i64 y2, .int .i64 y3, .int .i64 0, .int .i64 0]) := Lh (hP.set 2 (.int .i64 y3))
     clear hP H3 hs hg HP2
     have H4 := Lh (HP3.out.sr.cInt HL.out)
     have HY4 := Lh (show I64 q3.int.1 from rdInt_bd q3.l q3.er)
     obtain ⟨⟨y4, q4⟩, hq4⟩ : ∃ y, q3.int = y := ⟨_, rfl⟩
     rw [hq4] at H4 HY4
     simp only at H4 HY4
     have HQ4 := Lh hq4
     clear hq4
     go_wp2_with fail
     refine H4.out.mono ?_
     rintro e v4 ⟨rfl, hs, hg⟩
     have hP := HP3.out.call hs hg
     have hl4 := blk_lt hP.cb
     have f4 := blk_free hP.cb 3
     have g4 := blk_cell hP.cb 3 (v := .int .i64 0) rfl
     have HP4 : Hid (CQ BL p b9 wo (v4.setCell ⟨b9, 3, none⟩ (.int .i64 y4)) l q4 #[.int .i64 y1, .int .i64 y2, .int .i64 y3, .int .i64 y4, .int .i64 0]) := Lh (hP.set 3 (.int .i64 y4))
     clear hP H4 hs hg HP3
     have H5 := Lh (HP4.out.sr.cInt HL.out)
     have HY5 := Lh (show I64 q4.int.1 from rdInt_bd q4.l q4.er)
     obtain ⟨⟨y5, q5⟩, hq5⟩ : ∃ y, q4.int = y := ⟨_, rfl⟩
     rw [hq5] at H5 HY5
     simp only at H5 HY5
     have HQ5 := Lh hq5
     clear hq5
     go_wp2_with fail
     refine H5.out.mono ?_
     rintro e v5 ⟨rfl, hs, hg⟩
     have hP := HP4.out.call hs hg
     have hl5 := blk_lt hP.cb
     have f5 := blk_free hP.cb 4
     have g5 := blk_cell hP.cb 4 (v := .int .i64 0) rfl
     have HP5 : Hid (CQ BL p b9 wo (v5.setCell ⟨b9, 4, none⟩ (.int .i64 y5)) l q5 #[.int .i64 y1, .int .i64 y2, .int .i64 y3, .int .i64 y4, .int .i64 y5]) := Lh (hP.set 4 (.int .i64 y5))
     clear hP H5 hs hg HP4
     obtain ⟨W6, hW6⟩ : ∃ W, v5.setCell ⟨b9, 4, none⟩ (.int .i64 y5) = W := ⟨_, rfl⟩
     rw [hW6] at HP5
     have hl6 := blk_lt HP5.out.cb
     have HRc := Lh (blk_range HP5.out.cb)
     go_wp2_with (refine sel (some 99) (.load 107 _) ?_; refine wpList_load_mid rfl 107 (.tmp 13) rfl b9 0 rfl [.int .i64 y1, .int .i64 y2, .int .i64 y3, .int .i64 y4, .int .i64 y5] _ HRc.out Tryz.underlying107 rfl (by kernel_rfl) ?_)
     obtain ⟨W7, hW7⟩ : ∃ W, W6.alloc (.cells #[.int .i64 y1, .int .i64 y2, .int .i64 y3, .int .i64 y4, .int .i64 y5, .slice none 0 0] 110) = W := ⟨_, rfl⟩
     have hg67 : Chg Non W6 W7 := by rw [← hW7]; exact (Chg.refl Non W6).alloc _
     have hb7 : W7.heap[W6.heap.size]? = some (.cells #[.int .i64 y1, .int .i64 y2, .int .i64 y3, .int .i64 y4, .int .i64 y5, .slice none 0 0] 110 (0, 0)) := by rw [← hW7]; exact blk_new _ _
     rw [hW7]
     obtain ⟨bq, hbq⟩ : ∃ b, W6.heap.size = b := ⟨_, rfl⟩
     rw [hbq] at hb7
     have HBQ := Lh hb7
     have HP7 := Lh (HP5.out.sr.non hg67)
     have HGw := Lh (HP5.out.chg.then_non hg67)
     have hwq : wo.heap.size ≤ bq := by rw [← hbq]; exact HP5.out.chg.size
     have H6 := Lh (HP7.out.cCount HL.out 4)
     have HCb4 : Hid ((q5.count 4).1 ≤ 4) := Lh (by have h := (count_bd 4 q5.l q5.er); unfold Rs.count; simp only; omega)
     obtain ⟨⟨m, q6⟩, hq6⟩ : ∃ y, q5.count 4 = y := ⟨_, rfl⟩
     have hrows : Rs.rows 4 Rs.bytes q5 = Rs.many Rs.bytes m q6 := by unfold Rs.rows; rw [hq6]
     rw [hq6] at H6 HCb4
     simp only at H6 HCb4
     have HRw4 := Lh hrows
     clear hq6 hrows hW7 hW6 hb7 hg67 HRc hl6 HP5
     refine H6.out.mono ?_
     rintro e W8 ⟨rfl, hs, hg⟩
     have hbp : ¬ bq = p := fun e => by have := HBl.out p (RdSt.ptr HP7.out); omega
     have HBQ8 := Lh (blk_keep HBQ.out hg hbp)
     have HX8 := Lh hs
     have HGw8 := Lh (HGw.out.trans_same hg)
     have HBP := Lh hbp
     obtain ⟨Bm, hBm⟩ : ∃ b, W8.heap.size = b := ⟨_, rfl⟩
     have HBm : Hid (bq < Bm) := Lh (by rw [← hBm]; exact blk_lt HBQ8.out)
     have HBm8 := Lh hBm
     clear hs hg H6 HBQ HP7 HGw hbp hBm
     go_wp2_with fail
     go_loopw [16] (fun iv wr => ∃ (j : Nat) (y : Value), j ≤ m ∧ iv = .int .i64 j ∧ Hid (wr.heap[bq]? = some (.cells #[.int .i64 y1, .int .i64 y2, .int .i64 y3, .int .i64 y4, .int .i64 y5, y] 110 (0, 0))) ∧ Hid (OwnL (msgV (Exc Bm y)) Bm 29 1 wr y (Rs.many Rs.bytes j q6).1) ∧ Hid (RdR BL p wr l (Rs.many Rs.bytes j q6).2) ∧ Hid (Chg (fun x => x = p ∨ x = bq) W8 wr)) (fun iv _ => m - (intOf iv).toNat)
     case atStart => exact ⟨0, _, Nat.zero_le _, rfl, HBQ8, Lh (OwnL.nil _ _ _ _ _), HX8, Lh (Chg.refl _ _)⟩
     case round =>
      clear HBQ8 HX8
      obtain ⟨j, y, hj, rfl, HBj, HOj, HXj, HGj⟩ := hrel
      obtain ⟨wm, hwm⟩ : ∃ W, W = wr := ⟨_, rfl⟩
      subst hwm
      obtain ⟨A3, c3, hv3, hc3, hm3, _⟩ := HOj.out.rd
      rw [many_len] at hv3 hc3
      subst hv3
      unfold maxLen at hm3
      by_cases hlt : j < m
      ·have hltd : decide ((j : Int) < (m : Int)) = true := by simpa using hlt
       have hms := many_succ Rs.bytes j q6
       have HMj := Lh hms
       have HLj := Lh (many_len Rs.bytes j q6)
       obtain ⟨rj, hrj⟩ : ∃ r, (Rs.many Rs.bytes j q6).2 = r := ⟨_, rfl⟩
       obtain ⟨Lj, hLj⟩ : ∃ r, (Rs.many Rs.bytes j q6).1 = r := ⟨_, rfl⟩
       rw [hrj] at HXj HMj
       rw [hLj] at HOj HMj HLj
       clear hms hrj hLj
       go_wp2_with fail
       obtain ⟨V, hV⟩ : ∃ V, V = wm.drew := ⟨_, rfl⟩
       have hgV : Chg Non wm V := by rw [hV]; exact (Chg.refl Non _).drew
       have HgV := Lh hgV
       have HGe : Hid (∀ g, (Value.slice A3 j c3).ownBlock = some g → Bm ≤ g ∧ g < wm.heap.size) := Lh (fun g e => HOj.out.ge e)
       have HB0 := Lh (blk_keep HBj.out hgV (fun e => e))
       have HX0 := Lh (HXj.out.non hgV)
       have HO0 := Lh (HOj.out.non hgV (fun _ _ h => h.keep hgV (fun _ _ e => e)))
       have HVs : Hid (wm.heap.size ≤ V.heap.size) := Lh hgV.size
       have HpV : Hid (p < V.heap.size) := Lh HX0.out.lt
       have HbV : Hid (bq < V.heap.size) := Lh (blk_lt HB0.out)
       have HBy := Lh (fun W (h : RdR BL p W l rj) => h.cBytes HL.out)
       have HBd7 : Hid (rj.bytes.1.length ≤ 65536) := Lh (rdBytes_bd rj.l rj.er)
       obtain ⟨⟨y7, q7⟩, hq7⟩ : ∃ y, rj.bytes = y := ⟨_, rfl⟩
       rw [hq7] at HBy HMj HBd7
       simp only at HBy HMj HBd7
       clear hq7
       refine wp_region_held_drew (S := Chg (fun x => x = p ∨ x = bq ∨ (Value.slice A3 j c3).ownBlock = some x) V) (by kernel_rfl) (by rw [hV]; exact Chg.refl _ _) (fun hHeld => ?_)
       clear hHeld
       rw [← hV]
       clear hV hgV
       have HS0 : Hid (Chg (fun x => x = p) V V) := Lh (Chg.refl _ _)
       refine hp 0 108 (.pointer (some ⟨bq, 5, none⟩)) rfl (HS0.out.mono (fun x e => .inl e)) ?_
       refine hp 3 111 (.pointer (some ⟨p, 0, none⟩)) rfl (HS0.out.mono (fun x e => .inl e)) ?_
       refine h_three 1 2 4 (by kernel_rfl) rfl rfl rfl (by kernel_rfl) (by kernel_rfl) (by kernel_rfl) ?_ ?_ ?_
       ·intro K hK
        have hcy := blk_cell HB0.out 5 (v := .slice A3 j c3) rfl
        go_simp
        refine hK.out _ _ (HS0.out.mono (fun x e => .inl e)) (fun _ => ?_)
        clear hK K hcy
        try simp only [Act.put, sA, sB, sC]
        have HS1 := HS0
        have HB1 := HB0
        have HX1 := HX0
        refine h_two 2 4 (by kernel_rfl) rfl rfl (by kernel_rfl) (by kernel_rfl) ?_ ?_
        ·intro K hK
         go_simp
         refine hK.out _ _ ((HS1.out.alloc _).mono (fun x e => .inl e)) (fun _ => ?_)
         clear hK K
         try simp only [Act.put, sA, sB, sC]
         obtain ⟨we, hwe⟩ : ∃ X, V.alloc (.cells #[] 5) = X := ⟨_, rfl⟩
         have hal : Chg Non V we := by rw [← hwe]; exact (Chg.refl Non V).alloc _
         have HE : Hid (we.heap[V.heap.size]? = some (.cells #[] 5 (0, 0))) := Lh (by rw [← hwe]; exact blk_new _ _)
         rw [hwe]
         have HS2 := Lh (HS1.out.then_non hal)
         have HB2 := Lh (blk_keep HB1.out hal (fun e => e))
         have HX2 := Lh (HX1.out.non hal)
         obtain ⟨ge, hge⟩ : ∃ g, V.heap.size = g := ⟨_, rfl⟩
         have HGg : Hid (V.heap.size ≤ ge) := Lh (by rw [← hge]; exact HS1.out.size)
         rw [hge] at HE
         try rw [hge]
         clear hwe hal hge
         refine h1o 4 rfl ?_
         intro K hK
         go_simp
         refine (HBy.out _ HX2.out).mono ?_
         rintro e u1 ⟨⟨Am, cm, rfl, hn0, _, _, ho⟩, hs, hg⟩
         have HS3 := Lh (HS2.out.trans_same hg)
         refine hK.out _ _ (HS3.out.mono (fun x e => .inl e)) (fun _ => ?_)
         clear hK K
         try simp only [Act.put, sA, sB, sC]
         have HB3 := Lh (blk_keep HB2.out hg HBP.out)
         have HX3 := Lh hs
         have HRm := Lh ho.rd
         have HNm := Lh hn0
         have HE := Lh (blk_keep HE.out hg (fun e => by have e : ge = p := e; have := HGg.out; have := HpV.out; omega))
         clear hn0 ho hs hg
         refine h1o 5 rfl ?_
         intro K hK
         have HOE := Lh (ownB_none V.heap.size u1 ge HGg.out HE.out)
         refine wp_bytes (.tmp 110) (.tmp 112) rfl V.heap.size _ [] rfl HOE.out Am y7 cm rfl HRm.out HNm.out (by simp) (by have := HBd7.out; omega) HS3.out.size ?_
         intro v8 w8 ho hg
         rw [List.nil_append] at ho
         obtain ⟨A9, c9, rfl, h91, h92, h93⟩ := ho.slice
         have HB9 := Lh (own_bytes h93 h91 h92)
         have HS4 := Lh (HS3.out.then_new hg (fun x e => e))
         have HX4 := Lh (HX3.out.keep hg (fun x e hx => by have e : V.heap.size ≤ x := e; have := HBl.out x hx; have := HVs.out; have := HGj.out.size; have := HGw8.out.size; omega))
         have HB4 := Lh (blk_keep HB3.out hg (fun e => by have e : V.heap.size ≤ bq := e; have := HbV.out; omega))
         refine hK.out _ _ (HS4.out.mono (fun x e => .inl e)) (fun _ => ?_)
         clear hK K ho hg h91 h92 h93
         try simp only [Act.put, sA, sB, sC]
         refine h1o 6 rfl ?_
         intro K hK
         go_simp
         refine hK.out _ _ ((HS4.out.alloc _).mono (fun x e => .inl e)) (fun _ => ?_)
         clear hK K
         try simp only [Act.put, sA, sB, sC]
         obtain ⟨w9, hw9⟩ : ∃ X, w8.alloc (.cells #[.slice A9 y7.length c9] 29) = X := ⟨_, rfl⟩
         have hal : Chg Non w8 w9 := by rw [← hw9]; exact (Chg.refl Non w8).alloc _
         obtain ⟨g9, hg9⟩ : ∃ g, w8.heap.size = g := ⟨_, rfl⟩
         have HC9 : Hid (w9.heap[g9]? = some (.cells #[.slice A9 y7.length c9] 29 (0, 0))) := Lh (by rw [← hw9, ← hg9]; exact blk_new _ _)
         rw [hw9]
         try rw [hg9]
         have HS5 := Lh (HS4.out.then_non hal)
         have HB5 := Lh (blk_keep HB4.out hal (fun e => e))
         have HX5 := Lh (HX4.out.non hal)
         have HB9 := Lh (HB9.out.non hal)
         clear hw9 hal hg9
         refine h1o 7 rfl ?_
         intro K hK
         have hp9 : p < Bm := by have := HBl.out p (RdSt.ptr HX5.out); have := HBm.out; omega
         have hO := HO0.out.keep HS5.out (fun g e e2 => by have := (HGe.out g e).1; have e2 : g = p := e2; omega) (fun a vs h => h.keep HS5.out (fun b hb e2 => by have := hb.1; have e2 : b = p := e2; omega))
         have hO9 : OwnL (msgV (fun b => Exc Bm (.slice A3 j c3) b ∧ b < w9.heap.size)) Bm 29 1 w9 (.slice A3 j c3) Lj := hO.mono (fun _ _ h => h.bound)
         refine wp_snocL (msgV (fun b => Exc Bm (.slice A3 j c3) b ∧ b < w9.heap.size)) (.tmp 109) (.tmp 114) 108 rfl Bm 29 _ 1 24 Tryz.underlying108 info_clBy rfl (by omega) (.slice A3 j c3) Lj rfl hO9 g9 y7 #[.slice A9 y7.length c9] 29 rfl HC9.out rfl (by simp [Value.oneCell']) (by rw [HLj.out]; have := HCb4.out; omega) (by omega) (by have := HVs.out; have := HS5.out.size; have := HGj.out.size; have := HBm8.out; omega)
          (fun w' a vs hg h => h.keep hg (fun b hb e => hb.1.2 e)) ?_ ?_
         ·refine ⟨.slice A9 y7.length c9, rfl, (HB9.out.bound).mono (fun b hb => ⟨⟨?_, fun e => ?_⟩, hb.2⟩), by have := HBd7.out; omega⟩
          ·have h1 : V.heap.size ≤ b := hb.1
           have := HVs.out; have := HGj.out.size; have := HBm8.out
           show Bm ≤ b
           omega
          ·have h1 : V.heap.size ≤ b := hb.1
           have h2 := (HGe.out b e).2
           have := HVs.out
           omega
         intro v2 w2 ho hg hv
         have hho : OwnL (msgV (Exc Bm v2)) Bm 29 1 w2 v2 (Lj ++ [y7]) := ho.mono (fun a vs h => h.mono (fun b e => ⟨e.1.1, fun e2 => by
           rcases hv b e2 with e3 | e3
           · exact e.1.2 e3
           · have := e.2; omega⟩))
         obtain ⟨A2', c2', rfl, _⟩ := hho.rd
         have hgS : Chg (fun x => x = p ∨ x = bq ∨ (Value.slice A3 j c3).ownBlock = some x) V w2 := (HS5.out.mono (fun x e => .inl e)).trans_same (hg.mono (fun x e => .inr (.inr e)))
         have hbk2 := blk_keep HB5.out hg (fun e => by have := (HGe.out _ e).1; have := HBm.out; omega)
         have hx2 := HX5.out.keep hg (fun x e hx => by have := (HGe.out x e).1; have := HBl.out x hx; have := HBm.out; omega)
         refine hK.out _ _ hgS (fun _ => ?_)
         clear hK K
         try simp only [Act.put, sA, sB, sC]
         refine hp 8 116 (.pointer (some ⟨bq, 5, none⟩)) rfl hgS ?_
         obtain ⟨L', hL'⟩ : ∃ x, Lj ++ [y7] = x := ⟨_, rfl⟩
         rw [hL'] at hho
         try rw [hL']
         have hst := setAt w2 bq 5 (.slice A2' L'.length c2')
         have f5 := blk_free hbk2 5
         have c5 := blk_cell hbk2 5 (v := .slice A3 j c3) rfl
         have hl2 := blk_lt hbk2
         have HM1 : Hid ((Rs.many Rs.bytes (j + 1) q6).1 = L') := Lh (by rw [HMj.out.1, hL'])
         have HM2 : Hid ((Rs.many Rs.bytes (j + 1) q6).2 = q7) := Lh HMj.out.2
         have HB10 := Lh (blk_set 5 (.slice A2' L'.length c2') hbk2)
         have HO10 := Lh (hho.keep hst (fun g e e2 => by have := (hho.ge e).1; have e2 : g = bq := e2; have := HBm.out; omega) (fun a vs h => h.keep hst (fun b hb e2 => by have := hb.1; have e2 : b = bq := e2; have := HBm.out; omega)))
         have HX10 := Lh (hx2.keep hst (fun x e hx => by have e : x = bq := e; have := HBl.out x hx; omega))
         have HG10 : Hid (Chg (fun x => x = p ∨ x = bq) W8 (w2.setCell ⟨bq, 5, none⟩ (.slice A2' L'.length c2'))) := Lh (((HGj.out.then_non HgV.out).trans hgS (fun x e => e) (fun x hx e => by
           rcases e with e | e | e
           · exact .inl e
           · exact .inr e
           · have := (HGe.out x e).1; have := HBm8.out; omega)).trans_same (hst.mono (fun x e => .inr e)))
         clear ho hg hv hho hbk2 hx2 hO hO9 hp9
         refine h1o 9 rfl ?_
         intro K hK
         go_simp
         refine hK.out _ _ (hgS.trans_same (hst.mono (fun x e => .inr (.inl e)))) (fun _ => ?_)
         clear hK K
         try simp only [Act.put, sA, sB, sC]
         refine hdn ?_ _
         have hm4 := HCb4.out
         go_wp2_with fail
         refine ⟨⟨j + 1, .slice A2' L'.length c2', by omega, by simp, HB10, ?_, ?_, HG10⟩, by simp [intOf]; omega⟩
         ·rw [HM1.out]; exact HO10
         ·rw [HM2.out]; exact HX10
        ·intro K hK
         go_simp
         refine (HBy.out _ HX1.out).mono ?_
         rintro e u1 ⟨⟨Am, cm, rfl, hn0, _, _, ho⟩, hs, hg⟩
         have HS2 := Lh (HS1.out.trans_same hg)
         refine hK.out _ _ (HS2.out.mono (fun x e => .inl e)) (fun _ => ?_)
         clear hK K
         try simp only [Act.put, sA, sB, sC]
         have HB2 := Lh (blk_keep HB1.out hg HBP.out)
         have HX2 := Lh hs
         have HRm := Lh ho.rd
         have HNm := Lh hn0
         clear hn0 ho hs hg
         refine h1o 2 rfl ?_
         intro K hK
         go_simp
         refine hK.out _ _ ((HS2.out.alloc _).mono (fun x e => .inl e)) (fun _ => ?_)
         clear hK K
         try simp only [Act.put, sA, sB, sC]
         obtain ⟨we, hwe⟩ : ∃ X, u1.alloc (.cells #[] 5) = X := ⟨_, rfl⟩
         have hal : Chg Non u1 we := by rw [← hwe]; exact (Chg.refl Non u1).alloc _
         have HE : Hid (we.heap[u1.heap.size]? = some (.cells #[] 5 (0, 0))) := Lh (by rw [← hwe]; exact blk_new _ _)
         rw [hwe]
         have HS3 := Lh (HS2.out.then_non hal)
         have HB3 := Lh (blk_keep HB2.out hal (fun e => e))
         have HX3 := Lh (HX2.out.non hal)
         obtain ⟨ge, hge⟩ : ∃ g, u1.heap.size = g := ⟨_, rfl⟩
         have HGg : Hid (V.heap.size ≤ ge) := Lh (by rw [← hge]; exact HS2.out.size)
         rw [hge] at HE
         try rw [hge]
         have HRm := Lh (HRm.out.non hal)
         clear hwe hal hge
         refine h1o 5 rfl ?_
         intro K hK
         have HOE := Lh (ownB_none V.heap.size we ge HGg.out HE.out)
         refine wp_bytes (.tmp 110) (.tmp 112) rfl V.heap.size _ [] rfl HOE.out Am y7 cm rfl HRm.out HNm.out (by simp) (by have := HBd7.out; omega) HS3.out.size ?_
         intro v8 w8 ho hg
         rw [List.nil_append] at ho
         obtain ⟨A9, c9, rfl, h91, h92, h93⟩ := ho.slice
         have HB9 := Lh (own_bytes h93 h91 h92)
         have HS4 := Lh (HS3.out.then_new hg (fun x e => e))
         have HX4 := Lh (HX3.out.keep hg (fun x e hx => by have e : V.heap.size ≤ x := e; have := HBl.out x hx; have := HVs.out; have := HGj.out.size; have := HGw8.out.size; omega))
         have HB4 := Lh (blk_keep HB3.out hg (fun e => by have e : V.heap.size ≤ bq := e; have := HbV.out; omega))
         refine hK.out _ _ (HS4.out.mono (fun x e => .inl e)) (fun _ => ?_)
         clear hK K ho hg h91 h92 h93
         try simp only [Act.put, sA, sB, sC]
         refine h1o 6 rfl ?_
         intro K hK
         go_simp
         refine hK.out _ _ ((HS4.out.alloc _).mono (fun x e => .inl e)) (fun _ => ?_)
         clear hK K
         try simp only [Act.put, sA, sB, sC]
         obtain ⟨w9, hw9⟩ : ∃ X, w8.alloc (.cells #[.slice A9 y7.length c9] 29) = X := ⟨_, rfl⟩
         have hal : Chg Non w8 w9 := by rw [← hw9]; exact (Chg.refl Non w8).alloc _
         obtain ⟨g9, hg9⟩ : ∃ g, w8.heap.size = g := ⟨_, rfl⟩
         have HC9 : Hid (w9.heap[g9]? = some (.cells #[.slice A9 y7.length c9] 29 (0, 0))) := Lh (by rw [← hw9, ← hg9]; exact blk_new _ _)
         rw [hw9]
         try rw [hg9]
         have HS5 := Lh (HS4.out.then_non hal)
         have HB5 := Lh (blk_keep HB4.out hal (fun e => e))
         have HX5 := Lh (HX4.out.non hal)
         have HB9 := Lh (HB9.out.non hal)
         clear hw9 hal hg9
         refine h1o 7 rfl ?_
         intro K hK
         have hp9 : p < Bm := by have := HBl.out p (RdSt.ptr HX5.out); have := HBm.out; omega
         have hO := HO0.out.keep HS5.out (fun g e e2 => by have := (HGe.out g e).1; have e2 : g = p := e2; omega) (fun a vs h => h.keep HS5.out (fun b hb e2 => by have := hb.1; have e2 : b = p := e2; omega))
         have hO9 : OwnL (msgV (fun b => Exc Bm (.slice A3 j c3) b ∧ b < w9.heap.size)) Bm 29 1 w9 (.slice A3 j c3) Lj := hO.mono (fun _ _ h => h.bound)
         refine wp_snocL (msgV (fun b => Exc Bm (.slice A3 j c3) b ∧ b < w9.heap.size)) (.tmp 109) (.tmp 114) 108 rfl Bm 29 _ 1 24 Tryz.underlying108 info_clBy rfl (by omega) (.slice A3 j c3) Lj rfl hO9 g9 y7 #[.slice A9 y7.length c9] 29 rfl HC9.out rfl (by simp [Value.oneCell']) (by rw [HLj.out]; have := HCb4.out; omega) (by omega) (by have := HVs.out; have := HS5.out.size; have := HGj.out.size; have := HBm8.out; omega)
          (fun w' a vs hg h => h.keep hg (fun b hb e => hb.1.2 e)) ?_ ?_
         ·refine ⟨.slice A9 y7.length c9, rfl, (HB9.out.bound).mono (fun b hb => ⟨⟨?_, fun e => ?_⟩, hb.2⟩), by have := HBd7.out; omega⟩
          ·have h1 : V.heap.size ≤ b := hb.1
           have := HVs.out; have := HGj.out.size; have := HBm8.out
           show Bm ≤ b
           omega
          ·have h1 : V.heap.size ≤ b := hb.1
           have h2 := (HGe.out b e).2
           have := HVs.out
           omega
         intro v2 w2 ho hg hv
         have hho : OwnL (msgV (Exc Bm v2)) Bm 29 1 w2 v2 (Lj ++ [y7]) := ho.mono (fun a vs h => h.mono (fun b e => ⟨e.1.1, fun e2 => by
           rcases hv b e2 with e3 | e3
           · exact e.1.2 e3
           · have := e.2; omega⟩))
         obtain ⟨A2', c2', rfl, _⟩ := hho.rd
         have hgS : Chg (fun x => x = p ∨ x = bq ∨ (Value.slice A3 j c3).ownBlock = some x) V w2 := (HS5.out.mono (fun x e => .inl e)).trans_same (hg.mono (fun x e => .inr (.inr e)))
         have hbk2 := blk_keep HB5.out hg (fun e => by have := (HGe.out _ e).1; have := HBm.out; omega)
         have hx2 := HX5.out.keep hg (fun x e hx => by have := (HGe.out x e).1; have := HBl.out x hx; have := HBm.out; omega)
         refine hK.out _ _ hgS (fun _ => ?_)
         clear hK K
         try simp only [Act.put, sA, sB, sC]
         refine hp 8 116 (.pointer (some ⟨bq, 5, none⟩)) rfl hgS ?_
         obtain ⟨L', hL'⟩ : ∃ x, Lj ++ [y7] = x := ⟨_, rfl⟩
         rw [hL'] at hho
         try rw [hL']
         have hst := setAt w2 bq 5 (.slice A2' L'.length c2')
         have f5 := blk_free hbk2 5
         have c5 := blk_cell hbk2 5 (v := .slice A3 j c3) rfl
         have hl2 := blk_lt hbk2
         have HM1 : Hid ((Rs.many Rs.bytes (j + 1) q6).1 = L') := Lh (by rw [HMj.out.1, hL'])
         have HM2 : Hid ((Rs.many Rs.bytes (j + 1) q6).2 = q7) := Lh HMj.out.2
         have HB10 := Lh (blk_set 5 (.slice A2' L'.length c2') hbk2)
         have HO10 := Lh (hho.keep hst (fun g e e2 => by have := (hho.ge e).1; have e2 : g = bq := e2; have := HBm.out; omega) (fun a vs h => h.keep hst (fun b hb e2 => by have := hb.1; have e2 : b = bq := e2; have := HBm.out; omega)))
         have HX10 := Lh (hx2.keep hst (fun x e hx => by have e : x = bq := e; have := HBl.out x hx; omega))
         have HG10 : Hid (Chg (fun x => x = p ∨ x = bq) W8 (w2.setCell ⟨bq, 5, none⟩ (.slice A2' L'.length c2'))) := Lh (((HGj.out.then_non HgV.out).trans hgS (fun x e => e) (fun x hx e => by
           rcases e with e | e | e
           · exact .inl e
           · exact .inr e
           · have := (HGe.out x e).1; have := HBm8.out; omega)).trans_same (hst.mono (fun x e => .inr e)))
         clear ho hg hv hho hbk2 hx2 hO hO9 hp9
         refine h1o 9 rfl ?_
         intro K hK
         go_simp
         refine hK.out _ _ (hgS.trans_same (hst.mono (fun x e => .inr (.inl e)))) (fun _ => ?_)
         clear hK K
         try simp only [Act.put, sA, sB, sC]
         refine hdn ?_ _
         have hm4 := HCb4.out
         go_wp2_with fail
         refine ⟨⟨j + 1, .slice A2' L'.length c2', by omega, by simp, HB10, ?_, ?_, HG10⟩, by simp [intOf]; omega⟩
         ·rw [HM1.out]; exact HO10
         ·rw [HM2.out]; exact HX10
       ·intro K hK
        go_simp
        refine hK.out _ _ ((HS0.out.alloc _).mono (fun x e => .inl e)) (fun _ => ?_)
        clear hK K
        try simp only [Act.put, sA, sB, sC]
        obtain ⟨we, hwe⟩ : ∃ X, V.alloc (.cells #[] 5) = X := ⟨_, rfl⟩
        have hal : Chg Non V we := by rw [← hwe]; exact (Chg.refl Non V).alloc _
        have HE : Hid (we.heap[V.heap.size]? = some (.cells #[] 5 (0, 0))) := Lh (by rw [← hwe]; exact blk_new _ _)
        rw [hwe]
        have HS1 := Lh (HS0.out.then_non hal)
        have HB1 := Lh (blk_keep HB0.out hal (fun e => e))
        have HX1 := Lh (HX0.out.non hal)
        obtain ⟨ge, hge⟩ : ∃ g, V.heap.size = g := ⟨_, rfl⟩
        have HGg : Hid (V.heap.size ≤ ge) := Lh (by rw [← hge]; exact HS0.out.size)
        rw [hge] at HE
        try rw [hge]
        clear hwe hal hge
        refine h_two 1 4 (by kernel_rfl) rfl rfl (by kernel_rfl) (by kernel_rfl) ?_ ?_
        ·intro K hK
         have hcy := blk_cell HB1.out 5 (v := .slice A3 j c3) rfl
         go_simp
         refine hK.out _ _ (HS1.out.mono (fun x e => .inl e)) (fun _ => ?_)
         clear hK K hcy
         try simp only [Act.put, sA, sB, sC]
         have HS2 := HS1
         have HB2 := HB1
         have HX2 := HX1
         refine h1o 4 rfl ?_
         intro K hK
         go_simp
         refine (HBy.out _ HX2.out).mono ?_
         rintro e u1 ⟨⟨Am, cm, rfl, hn0, _, _, ho⟩, hs, hg⟩
         have HS3 := Lh (HS2.out.trans_same hg)
         refine hK.out _ _ (HS3.out.mono (fun x e => .inl e)) (fun _ => ?_)
         clear hK K
         try simp only [Act.put, sA, sB, sC]
         have HB3 := Lh (blk_keep HB2.out hg HBP.out)
         have HX3 := Lh hs
         have HRm := Lh ho.rd
         have HNm := Lh hn0
         have HE := Lh (blk_keep HE.out hg (fun e => by have e : ge = p := e; have := HGg.out; have := HpV.out; omega))
         clear hn0 ho hs hg
         refine h1o 5 rfl ?_
         intro K hK
         have HOE := Lh (ownB_none V.heap.size u1 ge HGg.out HE.out)
         refine wp_bytes (.tmp 110) (.tmp 112) rfl V.heap.size _ [] rfl HOE.out Am y7 cm rfl HRm.out HNm.out (by simp) (by have := HBd7.out; omega) HS3.out.size ?_
         intro v8 w8 ho hg
         rw [List.nil_append] at ho
         obtain ⟨A9, c9, rfl, h91, h92, h93⟩ := ho.slice
         have HB9 := Lh (own_bytes h93 h91 h92)
         have HS4 := Lh (HS3.out.then_new hg (fun x e => e))
         have HX4 := Lh (HX3.out.keep hg (fun x e hx => by have e : V.heap.size ≤ x := e; have := HBl.out x hx; have := HVs.out; have := HGj.out.size; have := HGw8.out.size; omega))
         have HB4 := Lh (blk_keep HB3.out hg (fun e => by have e : V.heap.size ≤ bq := e; have := HbV.out; omega))
         refine hK.out _ _ (HS4.out.mono (fun x e => .inl e)) (fun _ => ?_)
         clear hK K ho hg h91 h92 h93
         try simp only [Act.put, sA, sB, sC]
         refine h1o 6 rfl ?_
         intro K hK
         go_simp
         refine hK.out _ _ ((HS4.out.alloc _).mono (fun x e => .inl e)) (fun _ => ?_)
         clear hK K
         try simp only [Act.put, sA, sB, sC]
         obtain ⟨w9, hw9⟩ : ∃ X, w8.alloc (.cells #[.slice A9 y7.length c9] 29) = X := ⟨_, rfl⟩
         have hal : Chg Non w8 w9 := by rw [← hw9]; exact (Chg.refl Non w8).alloc _
         obtain ⟨g9, hg9⟩ : ∃ g, w8.heap.size = g := ⟨_, rfl⟩
         have HC9 : Hid (w9.heap[g9]? = some (.cells #[.slice A9 y7.length c9] 29 (0, 0))) := Lh (by rw [← hw9, ← hg9]; exact blk_new _ _)
         rw [hw9]
         try rw [hg9]
         have HS5 := Lh (HS4.out.then_non hal)
         have HB5 := Lh (blk_keep HB4.out hal (fun e => e))
         have HX5 := Lh (HX4.out.non hal)
         have HB9 := Lh (HB9.out.non hal)
         clear hw9 hal hg9
         refine h1o 7 rfl ?_
         intro K hK
         have hp9 : p < Bm := by have := HBl.out p (RdSt.ptr HX5.out); have := HBm.out; omega
         have hO := HO0.out.keep HS5.out (fun g e e2 => by have := (HGe.out g e).1; have e2 : g = p := e2; omega) (fun a vs h => h.keep HS5.out (fun b hb e2 => by have := hb.1; have e2 : b = p := e2; omega))
         have hO9 : OwnL (msgV (fun b => Exc Bm (.slice A3 j c3) b ∧ b < w9.heap.size)) Bm 29 1 w9 (.slice A3 j c3) Lj := hO.mono (fun _ _ h => h.bound)
         refine wp_snocL (msgV (fun b => Exc Bm (.slice A3 j c3) b ∧ b < w9.heap.size)) (.tmp 109) (.tmp 114) 108 rfl Bm 29 _ 1 24 Tryz.underlying108 info_clBy rfl (by omega) (.slice A3 j c3) Lj rfl hO9 g9 y7 #[.slice A9 y7.length c9] 29 rfl HC9.out rfl (by simp [Value.oneCell']) (by rw [HLj.out]; have := HCb4.out; omega) (by omega) (by have := HVs.out; have := HS5.out.size; have := HGj.out.size; have := HBm8.out; omega)
          (fun w' a vs hg h => h.keep hg (fun b hb e => hb.1.2 e)) ?_ ?_
         ·refine ⟨.slice A9 y7.length c9, rfl, (HB9.out.bound).mono (fun b hb => ⟨⟨?_, fun e => ?_⟩, hb.2⟩), by have := HBd7.out; omega⟩
          ·have h1 : V.heap.size ≤ b := hb.1
           have := HVs.out; have := HGj.out.size; have := HBm8.out
           show Bm ≤ b
           omega
          ·have h1 : V.heap.size ≤ b := hb.1
           have h2 := (HGe.out b e).2
           have := HVs.out
           omega
         intro v2 w2 ho hg hv
         have hho : OwnL (msgV (Exc Bm v2)) Bm 29 1 w2 v2 (Lj ++ [y7]) := ho.mono (fun a vs h => h.mono (fun b e => ⟨e.1.1, fun e2 => by
           rcases hv b e2 with e3 | e3
           · exact e.1.2 e3
           · have := e.2; omega⟩))
         obtain ⟨A2', c2', rfl, _⟩ := hho.rd
         have hgS : Chg (fun x => x = p ∨ x = bq ∨ (Value.slice A3 j c3).ownBlock = some x) V w2 := (HS5.out.mono (fun x e => .inl e)).trans_same (hg.mono (fun x e => .inr (.inr e)))
         have hbk2 := blk_keep HB5.out hg (fun e => by have := (HGe.out _ e).1; have := HBm.out; omega)
         have hx2 := HX5.out.keep hg (fun x e hx => by have := (HGe.out x e).1; have := HBl.out x hx; have := HBm.out; omega)
         refine hK.out _ _ hgS (fun _ => ?_)
         clear hK K
         try simp only [Act.put, sA, sB, sC]
         refine hp 8 116 (.pointer (some ⟨bq, 5, none⟩)) rfl hgS ?_
         obtain ⟨L', hL'⟩ : ∃ x, Lj ++ [y7] = x := ⟨_, rfl⟩
         rw [hL'] at hho
         try rw [hL']
         have hst := setAt w2 bq 5 (.slice A2' L'.length c2')
         have f5 := blk_free hbk2 5
         have c5 := blk_cell hbk2 5 (v := .slice A3 j c3) rfl
         have hl2 := blk_lt hbk2
         have HM1 : Hid ((Rs.many Rs.bytes (j + 1) q6).1 = L') := Lh (by rw [HMj.out.1, hL'])
         have HM2 : Hid ((Rs.many Rs.bytes (j + 1) q6).2 = q7) := Lh HMj.out.2
         have HB10 := Lh (blk_set 5 (.slice A2' L'.length c2') hbk2)
         have HO10 := Lh (hho.keep hst (fun g e e2 => by have := (hho.ge e).1; have e2 : g = bq := e2; have := HBm.out; omega) (fun a vs h => h.keep hst (fun b hb e2 => by have := hb.1; have e2 : b = bq := e2; have := HBm.out; omega)))
         have HX10 := Lh (hx2.keep hst (fun x e hx => by have e : x = bq := e; have := HBl.out x hx; omega))
         have HG10 : Hid (Chg (fun x => x = p ∨ x = bq) W8 (w2.setCell ⟨bq, 5, none⟩ (.slice A2' L'.length c2'))) := Lh (((HGj.out.then_non HgV.out).trans hgS (fun x e => e) (fun x hx e => by
           rcases e with e | e | e
           · exact .inl e
           · exact .inr e
           · have := (HGe.out x e).1; have := HBm8.out; omega)).trans_same (hst.mono (fun x e => .inr e)))
         clear ho hg hv hho hbk2 hx2 hO hO9 hp9
         refine h1o 9 rfl ?_
         intro K hK
         go_simp
         refine hK.out _ _ (hgS.trans_same (hst.mono (fun x e => .inr (.inl e)))) (fun _ => ?_)
         clear hK K
         try simp only [Act.put, sA, sB, sC]
         refine hdn ?_ _
         have hm4 := HCb4.out
         go_wp2_with fail
         refine ⟨⟨j + 1, .slice A2' L'.length c2', by omega, by simp, HB10, ?_, ?_, HG10⟩, by simp [intOf]; omega⟩
         ·rw [HM1.out]; exact HO10
         ·rw [HM2.out]; exact HX10
        ·intro K hK
         go_simp
         refine (HBy.out _ HX1.out).mono ?_
         rintro e u1 ⟨⟨Am, cm, rfl, hn0, _, _, ho⟩, hs, hg⟩
         have HS2 := Lh (HS1.out.trans_same hg)
         refine hK.out _ _ (HS2.out.mono (fun x e => .inl e)) (fun _ => ?_)
         clear hK K
         try simp only [Act.put, sA, sB, sC]
         have HB2 := Lh (blk_keep HB1.out hg HBP.out)
         have HX2 := Lh hs
         have HRm := Lh ho.rd
         have HNm := Lh hn0
         have HE := Lh (blk_keep HE.out hg (fun e => by have e : ge = p := e; have := HGg.out; have := HpV.out; omega))
         clear hn0 ho hs hg
         refine h_two 1 5 (by kernel_rfl) rfl rfl (by kernel_rfl) (by kernel_rfl) ?_ ?_
         ·intro K hK
          have hcy := blk_cell HB2.out 5 (v := .slice A3 j c3) rfl
          go_simp
          refine hK.out _ _ (HS2.out.mono (fun x e => .inl e)) (fun _ => ?_)
          clear hK K hcy
          try simp only [Act.put, sA, sB, sC]
          have HS3 := HS2
          have HB3 := HB2
          have HX3 := HX2
          refine h1o 5 rfl ?_
          intro K hK
          have HOE := Lh (ownB_none V.heap.size u1 ge HGg.out HE.out)
          refine wp_bytes (.tmp 110) (.tmp 112) rfl V.heap.size _ [] rfl HOE.out Am y7 cm rfl HRm.out HNm.out (by simp) (by have := HBd7.out; omega) HS3.out.size ?_
          intro v8 w8 ho hg
          rw [List.nil_append] at ho
          obtain ⟨A9, c9, rfl, h91, h92, h93⟩ := ho.slice
          have HB9 := Lh (own_bytes h93 h91 h92)
          have HS4 := Lh (HS3.out.then_new hg (fun x e => e))
          have HX4 := Lh (HX3.out.keep hg (fun x e hx => by have e : V.heap.size ≤ x := e; have := HBl.out x hx; have := HVs.out; have := HGj.out.size; have := HGw8.out.size; omega))
          have HB4 := Lh (blk_keep HB3.out hg (fun e => by have e : V.heap.size ≤ bq := e; have := HbV.out; omega))
          refine hK.out _ _ (HS4.out.mono (fun x e => .inl e)) (fun _ => ?_)
          clear hK K ho hg h91 h92 h93
          try simp only [Act.put, sA, sB, sC]
          refine h1o 6 rfl ?_
          intro K hK
          go_simp
          refine hK.out _ _ ((HS4.out.alloc _).mono (fun x e => .inl e)) (fun _ => ?_)
          clear hK K
          try simp only [Act.put, sA, sB, sC]
          obtain ⟨w9, hw9⟩ : ∃ X, w8.alloc (.cells #[.slice A9 y7.length c9] 29) = X := ⟨_, rfl⟩
          have hal : Chg Non w8 w9 := by rw [← hw9]; exact (Chg.refl Non w8).alloc _
          obtain ⟨g9, hg9⟩ : ∃ g, w8.heap.size = g := ⟨_, rfl⟩
          have HC9 : Hid (w9.heap[g9]? = some (.cells #[.slice A9 y7.length c9] 29 (0, 0))) := Lh (by rw [← hw9, ← hg9]; exact blk_new _ _)
          rw [hw9]
          try rw [hg9]
          have HS5 := Lh (HS4.out.then_non hal)
          have HB5 := Lh (blk_keep HB4.out hal (fun e => e))
          have HX5 := Lh (HX4.out.non hal)
          have HB9 := Lh (HB9.out.non hal)
          clear hw9 hal hg9
          refine h1o 7 rfl ?_
          intro K hK
          have hp9 : p < Bm := by have := HBl.out p (RdSt.ptr HX5.out); have := HBm.out; omega
          have hO := HO0.out.keep HS5.out (fun g e e2 => by have := (HGe.out g e).1; have e2 : g = p := e2; omega) (fun a vs h => h.keep HS5.out (fun b hb e2 => by have := hb.1; have e2 : b = p := e2; omega))
          have hO9 : OwnL (msgV (fun b => Exc Bm (.slice A3 j c3) b ∧ b < w9.heap.size)) Bm 29 1 w9 (.slice A3 j c3) Lj := hO.mono (fun _ _ h => h.bound)
          refine wp_snocL (msgV (fun b => Exc Bm (.slice A3 j c3) b ∧ b < w9.heap.size)) (.tmp 109) (.tmp 114) 108 rfl Bm 29 _ 1 24 Tryz.underlying108 info_clBy rfl (by omega) (.slice A3 j c3) Lj rfl hO9 g9 y7 #[.slice A9 y7.length c9] 29 rfl HC9.out rfl (by simp [Value.oneCell']) (by rw [HLj.out]; have := HCb4.out; omega) (by omega) (by have := HVs.out; have := HS5.out.size; have := HGj.out.size; have := HBm8.out; omega)
           (fun w' a vs hg h => h.keep hg (fun b hb e => hb.1.2 e)) ?_ ?_
          ·refine ⟨.slice A9 y7.length c9, rfl, (HB9.out.bound).mono (fun b hb => ⟨⟨?_, fun e => ?_⟩, hb.2⟩), by have := HBd7.out; omega⟩
           ·have h1 : V.heap.size ≤ b := hb.1
            have := HVs.out; have := HGj.out.size; have := HBm8.out
            show Bm ≤ b
            omega
           ·have h1 : V.heap.size ≤ b := hb.1
            have h2 := (HGe.out b e).2
            have := HVs.out
            omega
          intro v2 w2 ho hg hv
          have hho : OwnL (msgV (Exc Bm v2)) Bm 29 1 w2 v2 (Lj ++ [y7]) := ho.mono (fun a vs h => h.mono (fun b e => ⟨e.1.1, fun e2 => by
            rcases hv b e2 with e3 | e3
            · exact e.1.2 e3
            · have := e.2; omega⟩))
          obtain ⟨A2', c2', rfl, _⟩ := hho.rd
          have hgS : Chg (fun x => x = p ∨ x = bq ∨ (Value.slice A3 j c3).ownBlock = some x) V w2 := (HS5.out.mono (fun x e => .inl e)).trans_same (hg.mono (fun x e => .inr (.inr e)))
          have hbk2 := blk_keep HB5.out hg (fun e => by have := (HGe.out _ e).1; have := HBm.out; omega)
          have hx2 := HX5.out.keep hg (fun x e hx => by have := (HGe.out x e).1; have := HBl.out x hx; have := HBm.out; omega)
          refine hK.out _ _ hgS (fun _ => ?_)
          clear hK K
          try simp only [Act.put, sA, sB, sC]
          refine hp 8 116 (.pointer (some ⟨bq, 5, none⟩)) rfl hgS ?_
          obtain ⟨L', hL'⟩ : ∃ x, Lj ++ [y7] = x := ⟨_, rfl⟩
          rw [hL'] at hho
          try rw [hL']
          have hst := setAt w2 bq 5 (.slice A2' L'.length c2')
          have f5 := blk_free hbk2 5
          have c5 := blk_cell hbk2 5 (v := .slice A3 j c3) rfl
          have hl2 := blk_lt hbk2
          have HM1 : Hid ((Rs.many Rs.bytes (j + 1) q6).1 = L') := Lh (by rw [HMj.out.1, hL'])
          have HM2 : Hid ((Rs.many Rs.bytes (j + 1) q6).2 = q7) := Lh HMj.out.2
          have HB10 := Lh (blk_set 5 (.slice A2' L'.length c2') hbk2)
          have HO10 := Lh (hho.keep hst (fun g e e2 => by have := (hho.ge e).1; have e2 : g = bq := e2; have := HBm.out; omega) (fun a vs h => h.keep hst (fun b hb e2 => by have := hb.1; have e2 : b = bq := e2; have := HBm.out; omega)))
          have HX10 := Lh (hx2.keep hst (fun x e hx => by have e : x = bq := e; have := HBl.out x hx; omega))
          have HG10 : Hid (Chg (fun x => x = p ∨ x = bq) W8 (w2.setCell ⟨bq, 5, none⟩ (.slice A2' L'.length c2'))) := Lh (((HGj.out.then_non HgV.out).trans hgS (fun x e => e) (fun x hx e => by
            rcases e with e | e | e
            · exact .inl e
            · exact .inr e
            · have := (HGe.out x e).1; have := HBm8.out; omega)).trans_same (hst.mono (fun x e => .inr e)))
          clear ho hg hv hho hbk2 hx2 hO hO9 hp9
          refine h1o 9 rfl ?_
          intro K hK
          go_simp
          refine hK.out _ _ (hgS.trans_same (hst.mono (fun x e => .inr (.inl e)))) (fun _ => ?_)
          clear hK K
          try simp only [Act.put, sA, sB, sC]
          refine hdn ?_ _
          have hm4 := HCb4.out
          go_wp2_with fail
          refine ⟨⟨j + 1, .slice A2' L'.length c2', by omega, by simp, HB10, ?_, ?_, HG10⟩, by simp [intOf]; omega⟩
          ·rw [HM1.out]; exact HO10
          ·rw [HM2.out]; exact HX10
         ·intro K hK
          have HOE := Lh (ownB_none V.heap.size u1 ge HGg.out HE.out)
          refine wp_bytes (.tmp 110) (.tmp 112) rfl V.heap.size _ [] rfl HOE.out Am y7 cm rfl HRm.out HNm.out (by simp) (by have := HBd7.out; omega) HS2.out.size ?_
          intro v8 w8 ho hg
          rw [List.nil_append] at ho
          obtain ⟨A9, c9, rfl, h91, h92, h93⟩ := ho.slice
          have HB9 := Lh (own_bytes h93 h91 h92)
          have HS3 := Lh (HS2.out.then_new hg (fun x e => e))
          have HX3 := Lh (HX2.out.keep hg (fun x e hx => by have e : V.heap.size ≤ x := e; have := HBl.out x hx; have := HVs.out; have := HGj.out.size; have := HGw8.out.size; omega))
          have HB3 := Lh (blk_keep HB2.out hg (fun e => by have e : V.heap.size ≤ bq := e; have := HbV.out; omega))
          refine hK.out _ _ (HS3.out.mono (fun x e => .inl e)) (fun _ => ?_)
          clear hK K ho hg h91 h92 h93
          try simp only [Act.put, sA, sB, sC]
          refine h_two 1 6 (by kernel_rfl) rfl rfl (by kernel_rfl) (by kernel_rfl) ?_ ?_
          ·intro K hK
           have hcy := blk_cell HB3.out 5 (v := .slice A3 j c3) rfl
           go_simp
           refine hK.out _ _ (HS3.out.mono (fun x e => .inl e)) (fun _ => ?_)
           clear hK K hcy
           try simp only [Act.put, sA, sB, sC]
           have HS4 := HS3
           have HB4 := HB3
           have HX4 := HX3
           refine h1o 6 rfl ?_
           intro K hK
           go_simp
           refine hK.out _ _ ((HS4.out.alloc _).mono (fun x e => .inl e)) (fun _ => ?_)
           clear hK K
           try simp only [Act.put, sA, sB, sC]
           obtain ⟨w9, hw9⟩ : ∃ X, w8.alloc (.cells #[.slice A9 y7.length c9] 29) = X := ⟨_, rfl⟩
           have hal : Chg Non w8 w9 := by rw [← hw9]; exact (Chg.refl Non w8).alloc _
           obtain ⟨g9, hg9⟩ : ∃ g, w8.heap.size = g := ⟨_, rfl⟩
           have HC9 : Hid (w9.heap[g9]? = some (.cells #[.slice A9 y7.length c9] 29 (0, 0))) := Lh (by rw [← hw9, ← hg9]; exact blk_new _ _)
           rw [hw9]
           try rw [hg9]
           have HS5 := Lh (HS4.out.then_non hal)
           have HB5 := Lh (blk_keep HB4.out hal (fun e => e))
           have HX5 := Lh (HX4.out.non hal)
           have HB9 := Lh (HB9.out.non hal)
           clear hw9 hal hg9
           refine h1o 7 rfl ?_
           intro K hK
           have hp9 : p < Bm := by have := HBl.out p (RdSt.ptr HX5.out); have := HBm.out; omega
           have hO := HO0.out.keep HS5.out (fun g e e2 => by have := (HGe.out g e).1; have e2 : g = p := e2; omega) (fun a vs h => h.keep HS5.out (fun b hb e2 => by have := hb.1; have e2 : b = p := e2; omega))
           have hO9 : OwnL (msgV (fun b => Exc Bm (.slice A3 j c3) b ∧ b < w9.heap.size)) Bm 29 1 w9 (.slice A3 j c3) Lj := hO.mono (fun _ _ h => h.bound)
           refine wp_snocL (msgV (fun b => Exc Bm (.slice A3 j c3) b ∧ b < w9.heap.size)) (.tmp 109) (.tmp 114) 108 rfl Bm 29 _ 1 24 Tryz.underlying108 info_clBy rfl (by omega) (.slice A3 j c3) Lj rfl hO9 g9 y7 #[.slice A9 y7.length c9] 29 rfl HC9.out rfl (by simp [Value.oneCell']) (by rw [HLj.out]; have := HCb4.out; omega) (by omega) (by have := HVs.out; have := HS5.out.size; have := HGj.out.size; have := HBm8.out; omega)
            (fun w' a vs hg h => h.keep hg (fun b hb e => hb.1.2 e)) ?_ ?_
           ·refine ⟨.slice A9 y7.length c9, rfl, (HB9.out.bound).mono (fun b hb => ⟨⟨?_, fun e => ?_⟩, hb.2⟩), by have := HBd7.out; omega⟩
            ·have h1 : V.heap.size ≤ b := hb.1
             have := HVs.out; have := HGj.out.size; have := HBm8.out
             show Bm ≤ b
             omega
            ·have h1 : V.heap.size ≤ b := hb.1
             have h2 := (HGe.out b e).2
             have := HVs.out
             omega
           intro v2 w2 ho hg hv
           have hho : OwnL (msgV (Exc Bm v2)) Bm 29 1 w2 v2 (Lj ++ [y7]) := ho.mono (fun a vs h => h.mono (fun b e => ⟨e.1.1, fun e2 => by
             rcases hv b e2 with e3 | e3
             · exact e.1.2 e3
             · have := e.2; omega⟩))
           obtain ⟨A2', c2', rfl, _⟩ := hho.rd
           have hgS : Chg (fun x => x = p ∨ x = bq ∨ (Value.slice A3 j c3).ownBlock = some x) V w2 := (HS5.out.mono (fun x e => .inl e)).trans_same (hg.mono (fun x e => .inr (.inr e)))
           have hbk2 := blk_keep HB5.out hg (fun e => by have := (HGe.out _ e).1; have := HBm.out; omega)
           have hx2 := HX5.out.keep hg (fun x e hx => by have := (HGe.out x e).1; have := HBl.out x hx; have := HBm.out; omega)
           refine hK.out _ _ hgS (fun _ => ?_)
           clear hK K
           try simp only [Act.put, sA, sB, sC]
           refine hp 8 116 (.pointer (some ⟨bq, 5, none⟩)) rfl hgS ?_
           obtain ⟨L', hL'⟩ : ∃ x, Lj ++ [y7] = x := ⟨_, rfl⟩
           rw [hL'] at hho
           try rw [hL']
           have hst := setAt w2 bq 5 (.slice A2' L'.length c2')
           have f5 := blk_free hbk2 5
           have c5 := blk_cell hbk2 5 (v := .slice A3 j c3) rfl
           have hl2 := blk_lt hbk2
           have HM1 : Hid ((Rs.many Rs.bytes (j + 1) q6).1 = L') := Lh (by rw [HMj.out.1, hL'])
           have HM2 : Hid ((Rs.many Rs.bytes (j + 1) q6).2 = q7) := Lh HMj.out.2
           have HB10 := Lh (blk_set 5 (.slice A2' L'.length c2') hbk2)
           have HO10 := Lh (hho.keep hst (fun g e e2 => by have := (hho.ge e).1; have e2 : g = bq := e2; have := HBm.out; omega) (fun a vs h => h.keep hst (fun b hb e2 => by have := hb.1; have e2 : b = bq := e2; have := HBm.out; omega)))
           have HX10 := Lh (hx2.keep hst (fun x e hx => by have e : x = bq := e; have := HBl.out x hx; omega))
           have HG10 : Hid (Chg (fun x => x = p ∨ x = bq) W8 (w2.setCell ⟨bq, 5, none⟩ (.slice A2' L'.length c2'))) := Lh (((HGj.out.then_non HgV.out).trans hgS (fun x e => e) (fun x hx e => by
             rcases e with e | e | e
             · exact .inl e
             · exact .inr e
             · have := (HGe.out x e).1; have := HBm8.out; omega)).trans_same (hst.mono (fun x e => .inr e)))
           clear ho hg hv hho hbk2 hx2 hO hO9 hp9
           refine h1o 9 rfl ?_
           intro K hK
           go_simp
           refine hK.out _ _ (hgS.trans_same (hst.mono (fun x e => .inr (.inl e)))) (fun _ => ?_)
           clear hK K
           try simp only [Act.put, sA, sB, sC]
           refine hdn ?_ _
           have hm4 := HCb4.out
           go_wp2_with fail
           refine ⟨⟨j + 1, .slice A2' L'.length c2', by omega, by simp, HB10, ?_, ?_, HG10⟩, by simp [intOf]; omega⟩
           ·rw [HM1.out]; exact HO10
           ·rw [HM2.out]; exact HX10
          ·intro K hK
           go_simp
           refine hK.out _ _ ((HS3.out.alloc _).mono (fun x e => .inl e)) (fun _ => ?_)
           clear hK K
           try simp only [Act.put, sA, sB, sC]
           obtain ⟨w9, hw9⟩ : ∃ X, w8.alloc (.cells #[.slice A9 y7.length c9] 29) = X := ⟨_, rfl⟩
           have hal : Chg Non w8 w9 := by rw [← hw9]; exact (Chg.refl Non w8).alloc _
           obtain ⟨g9, hg9⟩ : ∃ g, w8.heap.size = g := ⟨_, rfl⟩
           have HC9 : Hid (w9.heap[g9]? = some (.cells #[.slice A9 y7.length c9] 29 (0, 0))) := Lh (by rw [← hw9, ← hg9]; exact blk_new _ _)
           rw [hw9]
           try rw [hg9]
           have HS4 := Lh (HS3.out.then_non hal)
           have HB4 := Lh (blk_keep HB3.out hal (fun e => e))
           have HX4 := Lh (HX3.out.non hal)
           have HB9 := Lh (HB9.out.non hal)
           clear hw9 hal hg9
           refine h1o 1 rfl ?_
           intro K hK
           have hcy := blk_cell HB4.out 5 (v := .slice A3 j c3) rfl
           go_simp
           refine hK.out _ _ (HS4.out.mono (fun x e => .inl e)) (fun _ => ?_)
           clear hK K hcy
           try simp only [Act.put, sA, sB, sC]
           have HS5 := HS4
           have HB5 := HB4
           have HX5 := HX4
           refine h1o 7 rfl ?_
           intro K hK
           have hp9 : p < Bm := by have := HBl.out p (RdSt.ptr HX5.out); have := HBm.out; omega
           have hO := HO0.out.keep HS5.out (fun g e e2 => by have := (HGe.out g e).1; have e2 : g = p := e2; omega) (fun a vs h => h.keep HS5.out (fun b hb e2 => by have := hb.1; have e2 : b = p := e2; omega))
           have hO9 : OwnL (msgV (fun b => Exc Bm (.slice A3 j c3) b ∧ b < w9.heap.size)) Bm 29 1 w9 (.slice A3 j c3) Lj := hO.mono (fun _ _ h => h.bound)
           refine wp_snocL (msgV (fun b => Exc Bm (.slice A3 j c3) b ∧ b < w9.heap.size)) (.tmp 109) (.tmp 114) 108 rfl Bm 29 _ 1 24 Tryz.underlying108 info_clBy rfl (by omega) (.slice A3 j c3) Lj rfl hO9 g9 y7 #[.slice A9 y7.length c9] 29 rfl HC9.out rfl (by simp [Value.oneCell']) (by rw [HLj.out]; have := HCb4.out; omega) (by omega) (by have := HVs.out; have := HS5.out.size; have := HGj.out.size; have := HBm8.out; omega)
            (fun w' a vs hg h => h.keep hg (fun b hb e => hb.1.2 e)) ?_ ?_
           ·refine ⟨.slice A9 y7.length c9, rfl, (HB9.out.bound).mono (fun b hb => ⟨⟨?_, fun e => ?_⟩, hb.2⟩), by have := HBd7.out; omega⟩
            ·have h1 : V.heap.size ≤ b := hb.1
             have := HVs.out; have := HGj.out.size; have := HBm8.out
             show Bm ≤ b
             omega
            ·have h1 : V.heap.size ≤ b := hb.1
             have h2 := (HGe.out b e).2
             have := HVs.out
             omega
           intro v2 w2 ho hg hv
           have hho : OwnL (msgV (Exc Bm v2)) Bm 29 1 w2 v2 (Lj ++ [y7]) := ho.mono (fun a vs h => h.mono (fun b e => ⟨e.1.1, fun e2 => by
             rcases hv b e2 with e3 | e3
             · exact e.1.2 e3
             · have := e.2; omega⟩))
           obtain ⟨A2', c2', rfl, _⟩ := hho.rd
           have hgS : Chg (fun x => x = p ∨ x = bq ∨ (Value.slice A3 j c3).ownBlock = some x) V w2 := (HS5.out.mono (fun x e => .inl e)).trans_same (hg.mono (fun x e => .inr (.inr e)))
           have hbk2 := blk_keep HB5.out hg (fun e => by have := (HGe.out _ e).1; have := HBm.out; omega)
           have hx2 := HX5.out.keep hg (fun x e hx => by have := (HGe.out x e).1; have := HBl.out x hx; have := HBm.out; omega)
           refine hK.out _ _ hgS (fun _ => ?_)
           clear hK K
           try simp only [Act.put, sA, sB, sC]
           refine hp 8 116 (.pointer (some ⟨bq, 5, none⟩)) rfl hgS ?_
           obtain ⟨L', hL'⟩ : ∃ x, Lj ++ [y7] = x := ⟨_, rfl⟩
           rw [hL'] at hho
           try rw [hL']
           have hst := setAt w2 bq 5 (.slice A2' L'.length c2')
           have f5 := blk_free hbk2 5
           have c5 := blk_cell hbk2 5 (v := .slice A3 j c3) rfl
           have hl2 := blk_lt hbk2
           have HM1 : Hid ((Rs.many Rs.bytes (j + 1) q6).1 = L') := Lh (by rw [HMj.out.1, hL'])
           have HM2 : Hid ((Rs.many Rs.bytes (j + 1) q6).2 = q7) := Lh HMj.out.2
           have HB10 := Lh (blk_set 5 (.slice A2' L'.length c2') hbk2)
           have HO10 := Lh (hho.keep hst (fun g e e2 => by have := (hho.ge e).1; have e2 : g = bq := e2; have := HBm.out; omega) (fun a vs h => h.keep hst (fun b hb e2 => by have := hb.1; have e2 : b = bq := e2; have := HBm.out; omega)))
           have HX10 := Lh (hx2.keep hst (fun x e hx => by have e : x = bq := e; have := HBl.out x hx; omega))
           have HG10 : Hid (Chg (fun x => x = p ∨ x = bq) W8 (w2.setCell ⟨bq, 5, none⟩ (.slice A2' L'.length c2'))) := Lh (((HGj.out.then_non HgV.out).trans hgS (fun x e => e) (fun x hx e => by
             rcases e with e | e | e
             · exact .inl e
             · exact .inr e
             · have := (HGe.out x e).1; have := HBm8.out; omega)).trans_same (hst.mono (fun x e => .inr e)))
           clear ho hg hv hho hbk2 hx2 hO hO9 hp9
           refine h1o 9 rfl ?_
           intro K hK
           go_simp
           refine hK.out _ _ (hgS.trans_same (hst.mono (fun x e => .inr (.inl e)))) (fun _ => ?_)
           clear hK K
           try simp only [Act.put, sA, sB, sC]
           refine hdn ?_ _
           have hm4 := HCb4.out
           go_wp2_with fail
           refine ⟨⟨j + 1, .slice A2' L'.length c2', by omega, by simp, HB10, ?_, ?_, HG10⟩, by simp [intOf]; omega⟩
           ·rw [HM1.out]; exact HO10
           ·rw [HM2.out]; exact HX10
       ·intro K hK
        go_simp
        refine (HBy.out _ HX0.out).mono ?_
        rintro e u1 ⟨⟨Am, cm, rfl, hn0, _, _, ho⟩, hs, hg⟩
        have HS1 := Lh (HS0.out.trans_same hg)
        refine hK.out _ _ (HS1.out.mono (fun x e => .inl e)) (fun _ => ?_)
        clear hK K
        try simp only [Act.put, sA, sB, sC]
        have HB1 := Lh (blk_keep HB0.out hg HBP.out)
        have HX1 := Lh hs
        have HRm := Lh ho.rd
        have HNm := Lh hn0
        clear hn0 ho hs hg
        refine h_two 1 2 (by kernel_rfl) rfl rfl (by kernel_rfl) (by kernel_rfl) ?_ ?_
        ·intro K hK
         have hcy := blk_cell HB1.out 5 (v := .slice A3 j c3) rfl
         go_simp
         refine hK.out _ _ (HS1.out.mono (fun x e => .inl e)) (fun _ => ?_)
         clear hK K hcy
         try simp only [Act.put, sA, sB, sC]
         have HS2 := HS1
         have HB2 := HB1
         have HX2 := HX1
         refine h1o 2 rfl ?_
         intro K hK
         go_simp
         refine hK.out _ _ ((HS2.out.alloc _).mono (fun x e => .inl e)) (fun _ => ?_)
         clear hK K
         try simp only [Act.put, sA, sB, sC]
         obtain ⟨we, hwe⟩ : ∃ X, u1.alloc (.cells #[] 5) = X := ⟨_, rfl⟩
         have hal : Chg Non u1 we := by rw [← hwe]; exact (Chg.refl Non u1).alloc _
         have HE : Hid (we.heap[u1.heap.size]? = some (.cells #[] 5 (0, 0))) := Lh (by rw [← hwe]; exact blk_new _ _)
         rw [hwe]
         have HS3 := Lh (HS2.out.then_non hal)
         have HB3 := Lh (blk_keep HB2.out hal (fun e => e))
         have HX3 := Lh (HX2.out.non hal)
         obtain ⟨ge, hge⟩ : ∃ g, u1.heap.size = g := ⟨_, rfl⟩
         have HGg : Hid (V.heap.size ≤ ge) := Lh (by rw [← hge]; exact HS2.out.size)
         rw [hge] at HE
         try rw [hge]
         have HRm := Lh (HRm.out.non hal)
         clear hwe hal hge
         refine h1o 5 rfl ?_
         intro K hK
         have HOE := Lh (ownB_none V.heap.size we ge HGg.out HE.out)
         refine wp_bytes (.tmp 110) (.tmp 112) rfl V.heap.size _ [] rfl HOE.out Am y7 cm rfl HRm.out HNm.out (by simp) (by have := HBd7.out; omega) HS3.out.size ?_
         intro v8 w8 ho hg
         rw [List.nil_append] at ho
         obtain ⟨A9, c9, rfl, h91, h92, h93⟩ := ho.slice
         have HB9 := Lh (own_bytes h93 h91 h92)
         have HS4 := Lh (HS3.out.then_new hg (fun x e => e))
         have HX4 := Lh (HX3.out.keep hg (fun x e hx => by have e : V.heap.size ≤ x := e; have := HBl.out x hx; have := HVs.out; have := HGj.out.size; have := HGw8.out.size; omega))
         have HB4 := Lh (blk_keep HB3.out hg (fun e => by have e : V.heap.size ≤ bq := e; have := HbV.out; omega))
         refine hK.out _ _ (HS4.out.mono (fun x e => .inl e)) (fun _ => ?_)
         clear hK K ho hg h91 h92 h93
         try simp only [Act.put, sA, sB, sC]
         refine h1o 6 rfl ?_
         intro K hK
         go_simp
         refine hK.out _ _ ((HS4.out.alloc _).mono (fun x e => .inl e)) (fun _ => ?_)
         clear hK K
         try simp only [Act.put, sA, sB, sC]
         obtain ⟨w9, hw9⟩ : ∃ X, w8.alloc (.cells #[.slice A9 y7.length c9] 29) = X := ⟨_, rfl⟩
         have hal : Chg Non w8 w9 := by rw [← hw9]; exact (Chg.refl Non w8).alloc _
         obtain ⟨g9, hg9⟩ : ∃ g, w8.heap.size = g := ⟨_, rfl⟩
         have HC9 : Hid (w9.heap[g9]? = some (.cells #[.slice A9 y7.length c9] 29 (0, 0))) := Lh (by rw [← hw9, ← hg9]; exact blk_new _ _)
         rw [hw9]
         try rw [hg9]
         have HS5 := Lh (HS4.out.then_non hal)
         have HB5 := Lh (blk_keep HB4.out hal (fun e => e))
         have HX5 := Lh (HX4.out.non hal)
         have HB9 := Lh (HB9.out.non hal)
         clear hw9 hal hg9
         refine h1o 7 rfl ?_
         intro K hK
         have hp9 : p < Bm := by have := HBl.out p (RdSt.ptr HX5.out); have := HBm.out; omega
         have hO := HO0.out.keep HS5.out (fun g e e2 => by have := (HGe.out g e).1; have e2 : g = p := e2; omega) (fun a vs h => h.keep HS5.out (fun b hb e2 => by have := hb.1; have e2 : b = p := e2; omega))
         have hO9 : OwnL (msgV (fun b => Exc Bm (.slice A3 j c3) b ∧ b < w9.heap.size)) Bm 29 1 w9 (.slice A3 j c3) Lj := hO.mono (fun _ _ h => h.bound)
         refine wp_snocL (msgV (fun b => Exc Bm (.slice A3 j c3) b ∧ b < w9.heap.size)) (.tmp 109) (.tmp 114) 108 rfl Bm 29 _ 1 24 Tryz.underlying108 info_clBy rfl (by omega) (.slice A3 j c3) Lj rfl hO9 g9 y7 #[.slice A9 y7.length c9] 29 rfl HC9.out rfl (by simp [Value.oneCell']) (by rw [HLj.out]; have := HCb4.out; omega) (by omega) (by have := HVs.out; have := HS5.out.size; have := HGj.out.size; have := HBm8.out; omega)
          (fun w' a vs hg h => h.keep hg (fun b hb e => hb.1.2 e)) ?_ ?_
         ·refine ⟨.slice A9 y7.length c9, rfl, (HB9.out.bound).mono (fun b hb => ⟨⟨?_, fun e => ?_⟩, hb.2⟩), by have := HBd7.out; omega⟩
          ·have h1 : V.heap.size ≤ b := hb.1
           have := HVs.out; have := HGj.out.size; have := HBm8.out
           show Bm ≤ b
           omega
          ·have h1 : V.heap.size ≤ b := hb.1
           have h2 := (HGe.out b e).2
           have := HVs.out
           omega
         intro v2 w2 ho hg hv
         have hho : OwnL (msgV (Exc Bm v2)) Bm 29 1 w2 v2 (Lj ++ [y7]) := ho.mono (fun a vs h => h.mono (fun b e => ⟨e.1.1, fun e2 => by
           rcases hv b e2 with e3 | e3
           · exact e.1.2 e3
           · have := e.2; omega⟩))
         obtain ⟨A2', c2', rfl, _⟩ := hho.rd
         have hgS : Chg (fun x => x = p ∨ x = bq ∨ (Value.slice A3 j c3).ownBlock = some x) V w2 := (HS5.out.mono (fun x e => .inl e)).trans_same (hg.mono (fun x e => .inr (.inr e)))
         have hbk2 := blk_keep HB5.out hg (fun e => by have := (HGe.out _ e).1; have := HBm.out; omega)
         have hx2 := HX5.out.keep hg (fun x e hx => by have := (HGe.out x e).1; have := HBl.out x hx; have := HBm.out; omega)
         refine hK.out _ _ hgS (fun _ => ?_)
         clear hK K
         try simp only [Act.put, sA, sB, sC]
         refine hp 8 116 (.pointer (some ⟨bq, 5, none⟩)) rfl hgS ?_
         obtain ⟨L', hL'⟩ : ∃ x, Lj ++ [y7] = x := ⟨_, rfl⟩
         rw [hL'] at hho
         try rw [hL']
         have hst := setAt w2 bq 5 (.slice A2' L'.length c2')
         have f5 := blk_free hbk2 5
         have c5 := blk_cell hbk2 5 (v := .slice A3 j c3) rfl
         have hl2 := blk_lt hbk2
         have HM1 : Hid ((Rs.many Rs.bytes (j + 1) q6).1 = L') := Lh (by rw [HMj.out.1, hL'])
         have HM2 : Hid ((Rs.many Rs.bytes (j + 1) q6).2 = q7) := Lh HMj.out.2
         have HB10 := Lh (blk_set 5 (.slice A2' L'.length c2') hbk2)
         have HO10 := Lh (hho.keep hst (fun g e e2 => by have := (hho.ge e).1; have e2 : g = bq := e2; have := HBm.out; omega) (fun a vs h => h.keep hst (fun b hb e2 => by have := hb.1; have e2 : b = bq := e2; have := HBm.out; omega)))
         have HX10 := Lh (hx2.keep hst (fun x e hx => by have e : x = bq := e; have := HBl.out x hx; omega))
         have HG10 : Hid (Chg (fun x => x = p ∨ x = bq) W8 (w2.setCell ⟨bq, 5, none⟩ (.slice A2' L'.length c2'))) := Lh (((HGj.out.then_non HgV.out).trans hgS (fun x e => e) (fun x hx e => by
           rcases e with e | e | e
           · exact .inl e
           · exact .inr e
           · have := (HGe.out x e).1; have := HBm8.out; omega)).trans_same (hst.mono (fun x e => .inr e)))
         clear ho hg hv hho hbk2 hx2 hO hO9 hp9
         refine h1o 9 rfl ?_
         intro K hK
         go_simp
         refine hK.out _ _ (hgS.trans_same (hst.mono (fun x e => .inr (.inl e)))) (fun _ => ?_)
         clear hK K
         try simp only [Act.put, sA, sB, sC]
         refine hdn ?_ _
         have hm4 := HCb4.out
         go_wp2_with fail
         refine ⟨⟨j + 1, .slice A2' L'.length c2', by omega, by simp, HB10, ?_, ?_, HG10⟩, by simp [intOf]; omega⟩
         ·rw [HM1.out]; exact HO10
         ·rw [HM2.out]; exact HX10
        ·intro K hK
         go_simp
         refine hK.out _ _ ((HS1.out.alloc _).mono (fun x e => .inl e)) (fun _ => ?_)
         clear hK K
         try simp only [Act.put, sA, sB, sC]
         obtain ⟨we, hwe⟩ : ∃ X, u1.alloc (.cells #[] 5) = X := ⟨_, rfl⟩
         have hal : Chg Non u1 we := by rw [← hwe]; exact (Chg.refl Non u1).alloc _
         have HE : Hid (we.heap[u1.heap.size]? = some (.cells #[] 5 (0, 0))) := Lh (by rw [← hwe]; exact blk_new _ _)
         rw [hwe]
         have HS2 := Lh (HS1.out.then_non hal)
         have HB2 := Lh (blk_keep HB1.out hal (fun e => e))
         have HX2 := Lh (HX1.out.non hal)
         obtain ⟨ge, hge⟩ : ∃ g, u1.heap.size = g := ⟨_, rfl⟩
         have HGg : Hid (V.heap.size ≤ ge) := Lh (by rw [← hge]; exact HS1.out.size)
         rw [hge] at HE
         try rw [hge]
         have HRm := Lh (HRm.out.non hal)
         clear hwe hal hge
         refine h_two 1 5 (by kernel_rfl) rfl rfl (by kernel_rfl) (by kernel_rfl) ?_ ?_
         ·intro K hK
          have hcy := blk_cell HB2.out 5 (v := .slice A3 j c3) rfl
          go_simp
          refine hK.out _ _ (HS2.out.mono (fun x e => .inl e)) (fun _ => ?_)
          clear hK K hcy
          try simp only [Act.put, sA, sB, sC]
          have HS3 := HS2
          have HB3 := HB2
          have HX3 := HX2
          refine h1o 5 rfl ?_
          intro K hK
          have HOE := Lh (ownB_none V.heap.size we ge HGg.out HE.out)
          refine wp_bytes (.tmp 110) (.tmp 112) rfl V.heap.size _ [] rfl HOE.out Am y7 cm rfl HRm.out HNm.out (by simp) (by have := HBd7.out; omega) HS3.out.size ?_
          intro v8 w8 ho hg
          rw [List.nil_append] at ho
          obtain ⟨A9, c9, rfl, h91, h92, h93⟩ := ho.slice
          have HB9 := Lh (own_bytes h93 h91 h92)
          have HS4 := Lh (HS3.out.then_new hg (fun x e => e))
          have HX4 := Lh (HX3.out.keep hg (fun x e hx => by have e : V.heap.size ≤ x := e; have := HBl.out x hx; have := HVs.out; have := HGj.out.size; have := HGw8.out.size; omega))
          have HB4 := Lh (blk_keep HB3.out hg (fun e => by have e : V.heap.size ≤ bq := e; have := HbV.out; omega))
          refine hK.out _ _ (HS4.out.mono (fun x e => .inl e)) (fun _ => ?_)
          clear hK K ho hg h91 h92 h93
          try simp only [Act.put, sA, sB, sC]
          refine h1o 6 rfl ?_
          intro K hK
          go_simp
          refine hK.out _ _ ((HS4.out.alloc _).mono (fun x e => .inl e)) (fun _ => ?_)
          clear hK K
          try simp only [Act.put, sA, sB, sC]
          obtain ⟨w9, hw9⟩ : ∃ X, w8.alloc (.cells #[.slice A9 y7.length c9] 29) = X := ⟨_, rfl⟩
          have hal : Chg Non w8 w9 := by rw [← hw9]; exact (Chg.refl Non w8).alloc _
          obtain ⟨g9, hg9⟩ : ∃ g, w8.heap.size = g := ⟨_, rfl⟩
          have HC9 : Hid (w9.heap[g9]? = some (.cells #[.slice A9 y7.length c9] 29 (0, 0))) := Lh (by rw [← hw9, ← hg9]; exact blk_new _ _)
          rw [hw9]
          try rw [hg9]
          have HS5 := Lh (HS4.out.then_non hal)
          have HB5 := Lh (blk_keep HB4.out hal (fun e => e))
          have HX5 := Lh (HX4.out.non hal)
          have HB9 := Lh (HB9.out.non hal)
          clear hw9 hal hg9
          refine h1o 7 rfl ?_
          intro K hK
          have hp9 : p < Bm := by have := HBl.out p (RdSt.ptr HX5.out); have := HBm.out; omega
          have hO := HO0.out.keep HS5.out (fun g e e2 => by have := (HGe.out g e).1; have e2 : g = p := e2; omega) (fun a vs h => h.keep HS5.out (fun b hb e2 => by have := hb.1; have e2 : b = p := e2; omega))
          have hO9 : OwnL (msgV (fun b => Exc Bm (.slice A3 j c3) b ∧ b < w9.heap.size)) Bm 29 1 w9 (.slice A3 j c3) Lj := hO.mono (fun _ _ h => h.bound)
          refine wp_snocL (msgV (fun b => Exc Bm (.slice A3 j c3) b ∧ b < w9.heap.size)) (.tmp 109) (.tmp 114) 108 rfl Bm 29 _ 1 24 Tryz.underlying108 info_clBy rfl (by omega) (.slice A3 j c3) Lj rfl hO9 g9 y7 #[.slice A9 y7.length c9] 29 rfl HC9.out rfl (by simp [Value.oneCell']) (by rw [HLj.out]; have := HCb4.out; omega) (by omega) (by have := HVs.out; have := HS5.out.size; have := HGj.out.size; have := HBm8.out; omega)
           (fun w' a vs hg h => h.keep hg (fun b hb e => hb.1.2 e)) ?_ ?_
          ·refine ⟨.slice A9 y7.length c9, rfl, (HB9.out.bound).mono (fun b hb => ⟨⟨?_, fun e => ?_⟩, hb.2⟩), by have := HBd7.out; omega⟩
           ·have h1 : V.heap.size ≤ b := hb.1
            have := HVs.out; have := HGj.out.size; have := HBm8.out
            show Bm ≤ b
            omega
           ·have h1 : V.heap.size ≤ b := hb.1
            have h2 := (HGe.out b e).2
            have := HVs.out
            omega
          intro v2 w2 ho hg hv
          have hho : OwnL (msgV (Exc Bm v2)) Bm 29 1 w2 v2 (Lj ++ [y7]) := ho.mono (fun a vs h => h.mono (fun b e => ⟨e.1.1, fun e2 => by
            rcases hv b e2 with e3 | e3
            · exact e.1.2 e3
            · have := e.2; omega⟩))
          obtain ⟨A2', c2', rfl, _⟩ := hho.rd
          have hgS : Chg (fun x => x = p ∨ x = bq ∨ (Value.slice A3 j c3).ownBlock = some x) V w2 := (HS5.out.mono (fun x e => .inl e)).trans_same (hg.mono (fun x e => .inr (.inr e)))
          have hbk2 := blk_keep HB5.out hg (fun e => by have := (HGe.out _ e).1; have := HBm.out; omega)
          have hx2 := HX5.out.keep hg (fun x e hx => by have := (HGe.out x e).1; have := HBl.out x hx; have := HBm.out; omega)
          refine hK.out _ _ hgS (fun _ => ?_)
          clear hK K
          try simp only [Act.put, sA, sB, sC]
          refine hp 8 116 (.pointer (some ⟨bq, 5, none⟩)) rfl hgS ?_
          obtain ⟨L', hL'⟩ : ∃ x, Lj ++ [y7] = x := ⟨_, rfl⟩
          rw [hL'] at hho
          try rw [hL']
          have hst := setAt w2 bq 5 (.slice A2' L'.length c2')
          have f5 := blk_free hbk2 5
          have c5 := blk_cell hbk2 5 (v := .slice A3 j c3) rfl
          have hl2 := blk_lt hbk2
          have HM1 : Hid ((Rs.many Rs.bytes (j + 1) q6).1 = L') := Lh (by rw [HMj.out.1, hL'])
          have HM2 : Hid ((Rs.many Rs.bytes (j + 1) q6).2 = q7) := Lh HMj.out.2
          have HB10 := Lh (blk_set 5 (.slice A2' L'.length c2') hbk2)
          have HO10 := Lh (hho.keep hst (fun g e e2 => by have := (hho.ge e).1; have e2 : g = bq := e2; have := HBm.out; omega) (fun a vs h => h.keep hst (fun b hb e2 => by have := hb.1; have e2 : b = bq := e2; have := HBm.out; omega)))
          have HX10 := Lh (hx2.keep hst (fun x e hx => by have e : x = bq := e; have := HBl.out x hx; omega))
          have HG10 : Hid (Chg (fun x => x = p ∨ x = bq) W8 (w2.setCell ⟨bq, 5, none⟩ (.slice A2' L'.length c2'))) := Lh (((HGj.out.then_non HgV.out).trans hgS (fun x e => e) (fun x hx e => by
            rcases e with e | e | e
            · exact .inl e
            · exact .inr e
            · have := (HGe.out x e).1; have := HBm8.out; omega)).trans_same (hst.mono (fun x e => .inr e)))
          clear ho hg hv hho hbk2 hx2 hO hO9 hp9
          refine h1o 9 rfl ?_
          intro K hK
          go_simp
          refine hK.out _ _ (hgS.trans_same (hst.mono (fun x e => .inr (.inl e)))) (fun _ => ?_)
          clear hK K
          try simp only [Act.put, sA, sB, sC]
          refine hdn ?_ _
          have hm4 := HCb4.out
          go_wp2_with fail
          refine ⟨⟨j + 1, .slice A2' L'.length c2', by omega, by simp, HB10, ?_, ?_, HG10⟩, by simp [intOf]; omega⟩
          ·rw [HM1.out]; exact HO10
          ·rw [HM2.out]; exact HX10
         ·intro K hK
          have HOE := Lh (ownB_none V.heap.size we ge HGg.out HE.out)
          refine wp_bytes (.tmp 110) (.tmp 112) rfl V.heap.size _ [] rfl HOE.out Am y7 cm rfl HRm.out HNm.out (by simp) (by have := HBd7.out; omega) HS2.out.size ?_
          intro v8 w8 ho hg
          rw [List.nil_append] at ho
          obtain ⟨A9, c9, rfl, h91, h92, h93⟩ := ho.slice
          have HB9 := Lh (own_bytes h93 h91 h92)
          have HS3 := Lh (HS2.out.then_new hg (fun x e => e))
          have HX3 := Lh (HX2.out.keep hg (fun x e hx => by have e : V.heap.size ≤ x := e; have := HBl.out x hx; have := HVs.out; have := HGj.out.size; have := HGw8.out.size; omega))
          have HB3 := Lh (blk_keep HB2.out hg (fun e => by have e : V.heap.size ≤ bq := e; have := HbV.out; omega))
          refine hK.out _ _ (HS3.out.mono (fun x e => .inl e)) (fun _ => ?_)
          clear hK K ho hg h91 h92 h93
          try simp only [Act.put, sA, sB, sC]
          refine h_two 1 6 (by kernel_rfl) rfl rfl (by kernel_rfl) (by kernel_rfl) ?_ ?_
          ·intro K hK
           have hcy := blk_cell HB3.out 5 (v := .slice A3 j c3) rfl
           go_simp
           refine hK.out _ _ (HS3.out.mono (fun x e => .inl e)) (fun _ => ?_)
           clear hK K hcy
           try simp only [Act.put, sA, sB, sC]
           have HS4 := HS3
           have HB4 := HB3
           have HX4 := HX3
           refine h1o 6 rfl ?_
           intro K hK
           go_simp
           refine hK.out _ _ ((HS4.out.alloc _).mono (fun x e => .inl e)) (fun _ => ?_)
           clear hK K
           try simp only [Act.put, sA, sB, sC]
           obtain ⟨w9, hw9⟩ : ∃ X, w8.alloc (.cells #[.slice A9 y7.length c9] 29) = X := ⟨_, rfl⟩
           have hal : Chg Non w8 w9 := by rw [← hw9]; exact (Chg.refl Non w8).alloc _
           obtain ⟨g9, hg9⟩ : ∃ g, w8.heap.size = g := ⟨_, rfl⟩
           have HC9 : Hid (w9.heap[g9]? = some (.cells #[.slice A9 y7.length c9] 29 (0, 0))) := Lh (by rw [← hw9, ← hg9]; exact blk_new _ _)
           rw [hw9]
           try rw [hg9]
           have HS5 := Lh (HS4.out.then_non hal)
           have HB5 := Lh (blk_keep HB4.out hal (fun e => e))
           have HX5 := Lh (HX4.out.non hal)
           have HB9 := Lh (HB9.out.non hal)
           clear hw9 hal hg9
           refine h1o 7 rfl ?_
           intro K hK
           have hp9 : p < Bm := by have := HBl.out p (RdSt.ptr HX5.out); have := HBm.out; omega
           have hO := HO0.out.keep HS5.out (fun g e e2 => by have := (HGe.out g e).1; have e2 : g = p := e2; omega) (fun a vs h => h.keep HS5.out (fun b hb e2 => by have := hb.1; have e2 : b = p := e2; omega))
           have hO9 : OwnL (msgV (fun b => Exc Bm (.slice A3 j c3) b ∧ b < w9.heap.size)) Bm 29 1 w9 (.slice A3 j c3) Lj := hO.mono (fun _ _ h => h.bound)
           refine wp_snocL (msgV (fun b => Exc Bm (.slice A3 j c3) b ∧ b < w9.heap.size)) (.tmp 109) (.tmp 114) 108 rfl Bm 29 _ 1 24 Tryz.underlying108 info_clBy rfl (by omega) (.slice A3 j c3) Lj rfl hO9 g9 y7 #[.slice A9 y7.length c9] 29 rfl HC9.out rfl (by simp [Value.oneCell']) (by rw [HLj.out]; have := HCb4.out; omega) (by omega) (by have := HVs.out; have := HS5.out.size; have := HGj.out.size; have := HBm8.out; omega)
            (fun w' a vs hg h => h.keep hg (fun b hb e => hb.1.2 e)) ?_ ?_
           ·refine ⟨.slice A9 y7.length c9, rfl, (HB9.out.bound).mono (fun b hb => ⟨⟨?_, fun e => ?_⟩, hb.2⟩), by have := HBd7.out; omega⟩
            ·have h1 : V.heap.size ≤ b := hb.1
             have := HVs.out; have := HGj.out.size; have := HBm8.out
             show Bm ≤ b
             omega
            ·have h1 : V.heap.size ≤ b := hb.1
             have h2 := (HGe.out b e).2
             have := HVs.out
             omega
           intro v2 w2 ho hg hv
           have hho : OwnL (msgV (Exc Bm v2)) Bm 29 1 w2 v2 (Lj ++ [y7]) := ho.mono (fun a vs h => h.mono (fun b e => ⟨e.1.1, fun e2 => by
             rcases hv b e2 with e3 | e3
             · exact e.1.2 e3
             · have := e.2; omega⟩))
           obtain ⟨A2', c2', rfl, _⟩ := hho.rd
           have hgS : Chg (fun x => x = p ∨ x = bq ∨ (Value.slice A3 j c3).ownBlock = some x) V w2 := (HS5.out.mono (fun x e => .inl e)).trans_same (hg.mono (fun x e => .inr (.inr e)))
           have hbk2 := blk_keep HB5.out hg (fun e => by have := (HGe.out _ e).1; have := HBm.out; omega)
           have hx2 := HX5.out.keep hg (fun x e hx => by have := (HGe.out x e).1; have := HBl.out x hx; have := HBm.out; omega)
           refine hK.out _ _ hgS (fun _ => ?_)
           clear hK K
           try simp only [Act.put, sA, sB, sC]
           refine hp 8 116 (.pointer (some ⟨bq, 5, none⟩)) rfl hgS ?_
           obtain ⟨L', hL'⟩ : ∃ x, Lj ++ [y7] = x := ⟨_, rfl⟩
           rw [hL'] at hho
           try rw [hL']
           have hst := setAt w2 bq 5 (.slice A2' L'.length c2')
           have f5 := blk_free hbk2 5
           have c5 := blk_cell hbk2 5 (v := .slice A3 j c3) rfl
           have hl2 := blk_lt hbk2
           have HM1 : Hid ((Rs.many Rs.bytes (j + 1) q6).1 = L') := Lh (by rw [HMj.out.1, hL'])
           have HM2 : Hid ((Rs.many Rs.bytes (j + 1) q6).2 = q7) := Lh HMj.out.2
           have HB10 := Lh (blk_set 5 (.slice A2' L'.length c2') hbk2)
           have HO10 := Lh (hho.keep hst (fun g e e2 => by have := (hho.ge e).1; have e2 : g = bq := e2; have := HBm.out; omega) (fun a vs h => h.keep hst (fun b hb e2 => by have := hb.1; have e2 : b = bq := e2; have := HBm.out; omega)))
           have HX10 := Lh (hx2.keep hst (fun x e hx => by have e : x = bq := e; have := HBl.out x hx; omega))
           have HG10 : Hid (Chg (fun x => x = p ∨ x = bq) W8 (w2.setCell ⟨bq, 5, none⟩ (.slice A2' L'.length c2'))) := Lh (((HGj.out.then_non HgV.out).trans hgS (fun x e => e) (fun x hx e => by
             rcases e with e | e | e
             · exact .inl e
             · exact .inr e
             · have := (HGe.out x e).1; have := HBm8.out; omega)).trans_same (hst.mono (fun x e => .inr e)))
           clear ho hg hv hho hbk2 hx2 hO hO9 hp9
           refine h1o 9 rfl ?_
           intro K hK
           go_simp
           refine hK.out _ _ (hgS.trans_same (hst.mono (fun x e => .inr (.inl e)))) (fun _ => ?_)
           clear hK K
           try simp only [Act.put, sA, sB, sC]
           refine hdn ?_ _
           have hm4 := HCb4.out
           go_wp2_with fail
           refine ⟨⟨j + 1, .slice A2' L'.length c2', by omega, by simp, HB10, ?_, ?_, HG10⟩, by simp [intOf]; omega⟩
           ·rw [HM1.out]; exact HO10
           ·rw [HM2.out]; exact HX10
          ·intro K hK
           go_simp
           refine hK.out _ _ ((HS3.out.alloc _).mono (fun x e => .inl e)) (fun _ => ?_)
           clear hK K
           try simp only [Act.put, sA, sB, sC]
           obtain ⟨w9, hw9⟩ : ∃ X, w8.alloc (.cells #[.slice A9 y7.length c9] 29) = X := ⟨_, rfl⟩
           have hal : Chg Non w8 w9 := by rw [← hw9]; exact (Chg.refl Non w8).alloc _
           obtain ⟨g9, hg9⟩ : ∃ g, w8.heap.size = g := ⟨_, rfl⟩
           have HC9 : Hid (w9.heap[g9]? = some (.cells #[.slice A9 y7.length c9] 29 (0, 0))) := Lh (by rw [← hw9, ← hg9]; exact blk_new _ _)
           rw [hw9]
           try rw [hg9]
           have HS4 := Lh (HS3.out.then_non hal)
           have HB4 := Lh (blk_keep HB3.out hal (fun e => e))
           have HX4 := Lh (HX3.out.non hal)
           have HB9 := Lh (HB9.out.non hal)
           clear hw9 hal hg9
           refine h1o 1 rfl ?_
           intro K hK
           have hcy := blk_cell HB4.out 5 (v := .slice A3 j c3) rfl
           go_simp
           refine hK.out _ _ (HS4.out.mono (fun x e => .inl e)) (fun _ => ?_)
           clear hK K hcy
           try simp only [Act.put, sA, sB, sC]
           have HS5 := HS4
           have HB5 := HB4
           have HX5 := HX4
           refine h1o 7 rfl ?_
           intro K hK
           have hp9 : p < Bm := by have := HBl.out p (RdSt.ptr HX5.out); have := HBm.out; omega
           have hO := HO0.out.keep HS5.out (fun g e e2 => by have := (HGe.out g e).1; have e2 : g = p := e2; omega) (fun a vs h => h.keep HS5.out (fun b hb e2 => by have := hb.1; have e2 : b = p := e2; omega))
           have hO9 : OwnL (msgV (fun b => Exc Bm (.slice A3 j c3) b ∧ b < w9.heap.size)) Bm 29 1 w9 (.slice A3 j c3) Lj := hO.mono (fun _ _ h => h.bound)
           refine wp_snocL (msgV (fun b => Exc Bm (.slice A3 j c3) b ∧ b < w9.heap.size)) (.tmp 109) (.tmp 114) 108 rfl Bm 29 _ 1 24 Tryz.underlying108 info_clBy rfl (by omega) (.slice A3 j c3) Lj rfl hO9 g9 y7 #[.slice A9 y7.length c9] 29 rfl HC9.out rfl (by simp [Value.oneCell']) (by rw [HLj.out]; have := HCb4.out; omega) (by omega) (by have := HVs.out; have := HS5.out.size; have := HGj.out.size; have := HBm8.out; omega)
            (fun w' a vs hg h => h.keep hg (fun b hb e => hb.1.2 e)) ?_ ?_
           ·refine ⟨.slice A9 y7.length c9, rfl, (HB9.out.bound).mono (fun b hb => ⟨⟨?_, fun e => ?_⟩, hb.2⟩), by have := HBd7.out; omega⟩
            ·have h1 : V.heap.size ≤ b := hb.1
             have := HVs.out; have := HGj.out.size; have := HBm8.out
             show Bm ≤ b
             omega
            ·have h1 : V.heap.size ≤ b := hb.1
             have h2 := (HGe.out b e).2
             have := HVs.out
             omega
           intro v2 w2 ho hg hv
           have hho : OwnL (msgV (Exc Bm v2)) Bm 29 1 w2 v2 (Lj ++ [y7]) := ho.mono (fun a vs h => h.mono (fun b e => ⟨e.1.1, fun e2 => by
             rcases hv b e2 with e3 | e3
             · exact e.1.2 e3
             · have := e.2; omega⟩))
           obtain ⟨A2', c2', rfl, _⟩ := hho.rd
           have hgS : Chg (fun x => x = p ∨ x = bq ∨ (Value.slice A3 j c3).ownBlock = some x) V w2 := (HS5.out.mono (fun x e => .inl e)).trans_same (hg.mono (fun x e => .inr (.inr e)))
           have hbk2 := blk_keep HB5.out hg (fun e => by have := (HGe.out _ e).1; have := HBm.out; omega)
           have hx2 := HX5.out.keep hg (fun x e hx => by have := (HGe.out x e).1; have := HBl.out x hx; have := HBm.out; omega)
           refine hK.out _ _ hgS (fun _ => ?_)
           clear hK K
           try simp only [Act.put, sA, sB, sC]
           refine hp 8 116 (.pointer (some ⟨bq, 5, none⟩)) rfl hgS ?_
           obtain ⟨L', hL'⟩ : ∃ x, Lj ++ [y7] = x := ⟨_, rfl⟩
           rw [hL'] at hho
           try rw [hL']
           have hst := setAt w2 bq 5 (.slice A2' L'.length c2')
           have f5 := blk_free hbk2 5
           have c5 := blk_cell hbk2 5 (v := .slice A3 j c3) rfl
           have hl2 := blk_lt hbk2
           have HM1 : Hid ((Rs.many Rs.bytes (j + 1) q6).1 = L') := Lh (by rw [HMj.out.1, hL'])
           have HM2 : Hid ((Rs.many Rs.bytes (j + 1) q6).2 = q7) := Lh HMj.out.2
           have HB10 := Lh (blk_set 5 (.slice A2' L'.length c2') hbk2)
           have HO10 := Lh (hho.keep hst (fun g e e2 => by have := (hho.ge e).1; have e2 : g = bq := e2; have := HBm.out; omega) (fun a vs h => h.keep hst (fun b hb e2 => by have := hb.1; have e2 : b = bq := e2; have := HBm.out; omega)))
           have HX10 := Lh (hx2.keep hst (fun x e hx => by have e : x = bq := e; have := HBl.out x hx; omega))
           have HG10 : Hid (Chg (fun x => x = p ∨ x = bq) W8 (w2.setCell ⟨bq, 5, none⟩ (.slice A2' L'.length c2'))) := Lh (((HGj.out.then_non HgV.out).trans hgS (fun x e => e) (fun x hx e => by
             rcases e with e | e | e
             · exact .inl e
             · exact .inr e
             · have := (HGe.out x e).1; have := HBm8.out; omega)).trans_same (hst.mono (fun x e => .inr e)))
           clear ho hg hv hho hbk2 hx2 hO hO9 hp9
           refine h1o 9 rfl ?_
           intro K hK
           go_simp
           refine hK.out _ _ (hgS.trans_same (hst.mono (fun x e => .inr (.inl e)))) (fun _ => ?_)
           clear hK K
           try simp only [Act.put, sA, sB, sC]
           refine hdn ?_ _
           have hm4 := HCb4.out
           go_wp2_with fail
           refine ⟨⟨j + 1, .slice A2' L'.length c2', by omega, by simp, HB10, ?_, ?_, HG10⟩, by simp [intOf]; omega⟩
           ·rw [HM1.out]; exact HO10
           ·rw [HM2.out]; exact HX10
      ·obtain rfl : j = m := by omega
       have hltd : decide ((j : Int) < (j : Int)) = false := by simp
       have hlj := many_len Rs.bytes j q6
       obtain ⟨⟨y6, q7⟩, hq7⟩ : ∃ y, Rs.many Rs.bytes j q6 = y := ⟨_, rfl⟩
       rw [hq7] at HOj HXj HRw4 hlj
       simp only at HOj HXj hlj
       have HQu := Lh (HQ.out q1 q2 q3 q4 q5 q7 y1 y2 y3 y4 y5 y6 HQ1.out HQ2.out HQ3.out HQ4.out HQ5.out HRw4.out)
       have hgm : Chg (fun x => x = p ∨ x = bq) wo wm := (HGw8.out.mono (fun x e => .inl e)).trans_same HGj.out
       have hsw := hgm.size
       have hBm := HBm8.out
       have hsw8 := HGw8.out.size
       have hszo := HSz.out
       have hps := HPS.out
       have hbb := HBB.out
       have hge : ∀ g, (Value.slice A1 k c1).ownBlock = some g → B2 ≤ g ∧ g < wo.heap.size := fun g e => HO.out.ge e
       have HBk9 := Lh (blk_keep HBk.out hgm (fun e => by rcases e with e | e <;> omega))
       have HPs9 := Lh (HPs.out.keep hgm (fun b h e => by
         have h1 : B ≤ b := h.1
         have h2 := h.2
         rcases e with e | e <;> omega) (fun a vs _ h => h.keep hgm (fun b h e => by
         have h1 : B ≤ b := h.1
         have h2 := h.2
         rcases e with e | e <;> omega)))
       have hO9 : OwnL (quV (fun b => Exc B2 (.slice A1 k c1) b ∧ b < wo.heap.size)) B2 110 6 wm (.slice A1 k c1) L :=
        (HO.out.mono (fun _ _ h => h.bound)).keep hgm (fun g e e2 => by
          have := hge g e
          rcases e2 with e2 | e2 <;> omega) (fun a vs h => h.keep hgm (fun b hb e2 => by
          have h1 : B2 ≤ b := hb.1.1
          have := hb.2
          rcases e2 with e2 | e2 <;> omega))
       have hMs : SlV (msgV (fun b => From Bm b ∧ b < wm.heap.size)) (fun b => From Bm b ∧ b < wm.heap.size) 1 wm y6 (.slice A3 j c3) := (OwnL.slV relMsg HOj.out (Nat.le_refl Bm)).bound (by omega) (fun _ _ _ h => h.bound)
       have HMs := Lh hMs
       have hk2 := blk_cell HBk9.out 2 (v := .slice A1 k c1) rfl
       have hlb : bs < wm.heap.size := blk_lt HBk9.out
       have hlq : bq < wm.heap.size := blk_lt HBj.out
       have HBq := Lh (blk_range HBj.out)
       have HO9 := Lh hO9
       have HGe := Lh hge
       have HGm := Lh hgm
       have HLj6 := Lh hlj
       have HNum := Lh (And.intro hsw (And.intro hBm (And.intro hsw8 (And.intro hszo (And.intro hps (And.intro hbb (And.intro hbso hwq)))))))
       clear hq7 hlj hMs hO9 hge hgm hsw hBm hsw8 hszo hps hbb hbso hwq
       go_wp2_with (first
         | (refine sel (some 119) (.load 110 _) ?_; refine wpList_load_mid rfl 110 (.tmp 14) rfl bq 0 rfl [.int .i64 y1, .int .i64 y2, .int .i64 y3, .int .i64 y4, .int .i64 y5, .slice A3 j c3] _ HBq.out Tryz.underlying110 rfl (by kernel_rfl) ?_)
         | (refine sel (some 121) (.call _) ?_; refine Vm_stop ?_))
       refine HoleV.mk ?_
       obtain ⟨hsw, hBm, hsw8, hszo, hps, hbb, hbso, hwq⟩ := HNum.out
       have hal : Chg Non wm (wm.alloc (.cells #[.int .i64 y1, .int .i64 y2, .int .i64 y3, .int .i64 y4, .int .i64 y5, .slice A3 j c3] 110)) := (Chg.refl Non wm).alloc _
       refine wpList_snocL (quV (fun b => Exc B2 (.slice A1 k c1) b ∧ b < wm.heap.size)) rfl (.tmp 118) (.tmp 120) 23 rfl B2 110 _ 6 64 Tryz.underlying23 info_clQu rfl (by omega) (.slice A1 k c1) L rfl ((HO9.out.mono (fun _ _ h => h.mono (fun b e => ⟨e.1, by have := e.2; omega⟩))).non hal (fun _ _ h => h.keep hal (fun _ _ e => e))) wm.heap.size (⟨⟨y1, y2, y3, y4, y5⟩, y6⟩ : Qu) #[.int .i64 y1, .int .i64 y2, .int .i64 y3, .int .i64 y4, .int .i64 y5, .slice A3 j c3] 110 rfl (blk_new _ _) rfl (by simp [Value.oneCell']) (by have := HLk.out; have := HCb2.out; omega) (by omega) (by simp; omega)
        (fun w' a vs hg h => h.keep hg (fun b hb e => hb.1.2 e)) ?_ ?_
       ·refine quV.keep ?_ hal (fun _ _ e => e)
        refine ⟨.slice A3 j c3, rfl, HMs.out.mono (fun b hb => ?_) (fun a vs _ h => h.mono (fun b hb => ?_)), ⟨HY1.out, HY2.out, HY3.out, HY4.out, HY5.out⟩, by have := HLj6.out; have := HCb4.out; show y6.length ≤ _; omega⟩
        ·have h1 : Bm ≤ b := hb.1
         exact ⟨⟨by omega, fun e => by have := (HGe.out b e).2; omega⟩, hb.2⟩
        ·have h1 : Bm ≤ b := hb.1
         exact ⟨⟨by omega, fun e => by have := (HGe.out b e).2; omega⟩, hb.2⟩
       intro v2 w2 ho hg hv
       have hsz9 : (wm.alloc (.cells #[.int .i64 y1, .int .i64 y2, .int .i64 y3, .int .i64 y4, .int .i64 y5, .slice A3 j c3] 110)).heap.size = wm.heap.size + 1 := by simp
       have hho : OwnL (quV (Exc B2 v2)) B2 110 6 w2 v2 (L ++ [(⟨⟨y1, y2, y3, y4, y5⟩, y6⟩ : Qu)]) := ho.mono (fun a vs h => h.mono (fun b e => ⟨e.1.1, fun e2 => by
         rcases hv b e2 with e3 | e3
         · exact e.1.2 e3
         · have := e.2; omega⟩))
       obtain ⟨L', hL'⟩ : ∃ x, L ++ [(⟨⟨y1, y2, y3, y4, y5⟩, y6⟩ : Qu)] = x := ⟨_, rfl⟩
       rw [hL'] at hho
       have hbk2 := blk_keep (blk_keep HBk9.out hal (fun e => e)) hg (fun e => by have := (HGe.out _ e).1; omega)
       have hx2 := (HXj.out.non hal).keep hg (fun x e hx => by have := (HGe.out x e).1; have := HBs.out x hx; omega)
       have hps2 := (HPs9.out.keep hal (fun _ _ e => e) (fun a vs _ h => h.keep hal (fun _ _ e => e))).keep hg (fun b h e => by have := (HGe.out b e).1; have := h.2; omega) (fun a vs _ h => h.keep hg (fun b h e => by have := (HGe.out b e).1; have := h.2; omega))
       have hg2 : Chg (fun x => x = p ∨ x = bs) W4 w2 := ((HG.out.trans HGm.out (fun x e => e) (fun x hx e => by
         rcases e with e | e
         · exact .inl e
         · have := HG.out.size; omega)).then_non hal).then_new hg (fun x e => by have := (HGe.out x e).1; have := HG.out.size; omega)
       have hs2 : B2 ≤ w2.heap.size := by have := hg.size; omega
       obtain ⟨A2, c2, rfl, _⟩ := hho.rd
       have hst := setAt w2 bs 2 (.slice A2 L'.length c2)
       have f1 := blk_free hbk2 2
       have c1 := blk_cell hbk2 2 (v := .slice A1 k c1) rfl
       have hl2 := blk_lt hbk2
       have HM1 : Hid ((Rs.many Rs.qu (k + 1) r4).1 = L') := Lh (by rw [HM.out.1, HQu.out, hL'])
       have HM2 : Hid ((Rs.many Rs.qu (k + 1) r4).2 = q7) := Lh (by rw [HM.out.2, HQu.out])
       have HB10 := Lh (blk_set 2 (.slice A2 L'.length c2) hbk2)
       have HO10 := Lh (hho.keep hst (fun g e e2 => by have := (hho.ge e).1; have e2 : g = bs := e2; omega) (fun a vs h => h.keep hst (fun b hb e2 => by have := hb.1; have e2 : b = bs := e2; omega)))
       have HPs10 := Lh (hps2.keep hst (fun b h e2 => by have h1 : B ≤ b := h.1; have e2 : b = bs := e2; omega) (fun a vs _ h => h.keep hst (fun b h e2 => by have h1 : B ≤ b := h.1; have e2 : b = bs := e2; omega)))
       have HX10 := Lh (hx2.keep hst (fun x e hx => by have e : x = bs := e; have := HBs.out x hx; omega))
       have HG10 := Lh (hg2.trans_same (hst.mono (fun x e => .inr e)))
       have HSz10 : Hid (B2 ≤ (w2.setCell ⟨bs, 2, none⟩ (.slice A2 L'.length c2)).heap.size) := Lh (by have := hst.size; omega)
       have hn6 := HCb2.out
       clear ho hg hv hho hbk2 hx2 hps2 hg2 hst hal hL' hs2 hsw hBm hsw8 hszo hps hbb hbso hwq
       go_wp2_with fail
       refine ⟨⟨k + 1, .slice A2 L'.length c2, by omega, by simp, HB10, HPs10, ?_, ?_, HG10, HSz10⟩, by simp [intOf]; omega⟩
       ·rw [HM1.out]; exact HO10
       ·rw [HM2.out]; exact HX10
    ·obtain rfl : k = n2 := by omega
     have hltd : decide ((k : Int) < (k : Int)) = false := by simp
     have hlk2 := many_len Rs.qu k r4
     have hrows3 : Rs.rows 8 Rs.qu r3 = Rs.many Rs.qu k r4 := by unfold Rs.rows; rw [HR4.out]
     have hwq3 : (Rs.many Rs.qu k r4).2.wide = r3.wide := by rw [many_wide Rs.qu qu_wide, HWd.out]
     obtain ⟨⟨x3, r5⟩, hr5⟩ : ∃ y, Rs.many Rs.qu k r4 = y := ⟨_, rfl⟩
     rw [hr5] at hrows3 HX hlk2 HO hwq3
     simp only at HX hlk2 HO hwq3
     have hPd := HPd.out x1 r1 r3 r5 x2 x3 HR1.out HRw2.out hrows3
     subst hlk2
     have hps := HPS.out
     have hbb := HBB.out
     have hpb := HPB.out
     have hw0 := HB2.out
     have hst : StaV (From B) wo ⟨x1, x2, x3⟩ (.slice A0 x2.length c0) (.slice A1 x3.length c1) :=
      ⟨HPs.out.mono (fun b h => h.1) (fun a vs _ h => h.mono (fun b h => h.1)), (OwnL.slV relQu HO.out (Nat.le_refl B2)).mono (fun b h => Nat.le_trans hBB2 h) (fun a vs _ h => h.mono (fun b h => Nat.le_trans hBB2 h))⟩
     have HSV := Lh hst
     have HZ := Lh (blk_keep HZ4.out HG.out (fun e => by rcases e with e | e <;> omega))
     have HGz : Hid (Chg Non w wo) := Lh (HG4.out.then_new HG.out (fun x e => by rcases e with e | e <;> omega))
     have HEn := Lh (rREnd BL p l r5.l r5.er wo HX.out HL.out)
     have her := rEndV_zero r5.l r5.er
     have hlp := HX.out.lt
     have HBk0 := Lh HBk.out
     clear HPd HPs HO HX HG hst HBk hc1 hm1 hrows3 hr5 hlk
     obtain ⟨E, hE⟩ : ∃ E, rEndV r5.l r5.er = E := ⟨_, rfl⟩
     rw [hE] at HEn her
     have hlb2 := blk_lt HZ.out
     have hlbs := blk_lt HBk0.out
     by_cases hE0 : E = 0
     case neg =>
      have de : (E != 0) = true := by simpa using hE0
      have HNo := Lh (show parseS l = none by
        rw [hPd, if_neg]
        rintro ⟨e1, e2, _⟩
        exact hE0 (her.2 ⟨e1, e2⟩))
      clear hE0 her hPd hE
      go_wp2_with fail
      refine HEn.out.mono ?_
      rintro e u ⟨rfl, hgu⟩
      replace HZ := Lh (blk_keep HZ.out hgu (fun e => e))
      replace HGz := Lh (HGz.out.then_non hgu)
      have hlb2 := blk_lt HZ.out
      clear hgu
      go_wp2_with (refine sel none (.store 25 (.tmp 2) (.tmp 134)) ?_; refine wpList_store_rowA rfl 25 (.tmp 2) (.tmp 134) rfl b2 zStC rfl rfl 25 zStC HZ.out (by kernel_rfl) rfl (by kernel_rfl) ?_; intro W9 hgW9 hbW9)
      exact bodyPost_ret (res_ct Tryz.results99 _ _ b2 25 _ (0, 0) _ (.int .i64 210) rfl rfl hbW9 Tryz.underlying25 rfl (by kernel_rfl)) rfl (.inr ⟨HNo.out, rfl, HGz.out.then_new hgW9 (fun x e => by have e : x = b2 := e; have := HB2.out; omega)⟩)
     obtain ⟨he0, hl0⟩ := her.1 hE0
     subst hE0
     have de : ((0 : Int) != 0) = false := by decide
     cases hw : r3.wide with
     | true =>
      rw [hw] at hwq3
      try rw [hw]
      have HNo := Lh (show parseS l = none by
        rw [hPd, if_neg]
        rintro ⟨_, _, e3, _⟩
        rw [hwq3] at e3; cases e3)
      clear her hPd hw he0 hl0 hE hwq3
      go_wp2_with fail
      refine HEn.out.mono ?_
      rintro e u ⟨rfl, hgu⟩
      replace HZ := Lh (blk_keep HZ.out hgu (fun e => e))
      replace HGz := Lh (HGz.out.then_non hgu)
      have hlb2 := blk_lt HZ.out
      clear hgu
      go_wp2_with (refine sel none (.store 25 (.tmp 2) (.tmp 134)) ?_; refine wpList_store_rowA rfl 25 (.tmp 2) (.tmp 134) rfl b2 zStC rfl rfl 25 zStC HZ.out (by kernel_rfl) rfl (by kernel_rfl) ?_; intro W9 hgW9 hbW9)
      exact bodyPost_ret (res_ct Tryz.results99 _ _ b2 25 _ (0, 0) _ (.int .i64 210) rfl rfl hbW9 Tryz.underlying25 rfl (by kernel_rfl)) rfl (.inr ⟨HNo.out, rfl, HGz.out.then_new hgW9 (fun x e => by have e : x = b2 := e; have := HB2.out; omega)⟩)
     | false =>
      rw [hw] at hwq3
      try rw [hw]
      cases hmy : mayS ⟨x1, x2, x3⟩ with
      | false =>
       have HNo := Lh (show parseS l = none by
         rw [hPd, if_neg]
         rintro ⟨_, _, _, e4⟩
         rw [hmy] at e4; cases e4)
       have HMq := Lh hmy
       clear her hPd hw he0 hl0 hE hwq3 hmy
       go_wp2_with fail
       refine HEn.out.mono ?_
       rintro e u ⟨rfl, hgu⟩
       replace HZ := Lh (blk_keep HZ.out hgu (fun e => e))
       replace HGz := Lh (HGz.out.then_non hgu)
       have hlb2 := blk_lt HZ.out
       replace HBk0 := Lh (blk_keep HBk0.out hgu (fun e => e))
       have HMy := Lh (r21May (From B) ⟨x1, x2, x3⟩ (.slice A0 x2.length c0) (.slice A1 x3.length c1) u (HSV.out.non hgu))
       rw [HMq.out] at HMy
       have d0 := blk_cell HBk0.out 0 (v := .int .i64 x1) rfl
       have d1 := blk_cell HBk0.out 1 (v := .slice A0 x2.length c0) rfl
       have d2 := blk_cell HBk0.out 2 (v := .slice A1 x3.length c1) rfl
       have hlbs := blk_lt HBk0.out
       clear hgu
       go_wp2_with fail
       refine HMy.out.mono ?_
       rintro e u2 ⟨rfl, hgu⟩
       replace HZ := Lh (blk_keep HZ.out hgu (fun e => e))
       replace HGz := Lh (HGz.out.then_non hgu)
       have hlb2 := blk_lt HZ.out
       clear hgu d0 d1 d2
       go_wp2_with (refine sel none (.store 25 (.tmp 2) (.tmp 134)) ?_; refine wpList_store_rowA rfl 25 (.tmp 2) (.tmp 134) rfl b2 zStC rfl rfl 25 zStC HZ.out (by kernel_rfl) rfl (by kernel_rfl) ?_; intro W9 hgW9 hbW9)
       exact bodyPost_ret (res_ct Tryz.results99 _ _ b2 25 _ (0, 0) _ (.int .i64 210) rfl rfl hbW9 Tryz.underlying25 rfl (by kernel_rfl)) rfl (.inr ⟨HNo.out, rfl, HGz.out.then_new hgW9 (fun x e => by have e : x = b2 := e; have := HB2.out; omega)⟩)
      | true =>
       have HYes := Lh (show parseS l = some ⟨x1, x2, x3⟩ by
         rw [hPd, if_pos ⟨he0, hl0, hwq3, hmy⟩])
       have HMq := Lh hmy
       clear her hPd hw he0 hl0 hE hwq3 hmy
       go_wp2_with fail
       refine HEn.out.mono ?_
       rintro e u ⟨rfl, hgu⟩
       replace HZ := Lh (blk_keep HZ.out hgu (fun e => e))
       replace HGz := Lh (HGz.out.then_non hgu)
       have hlb2 := blk_lt HZ.out
       replace HBk0 := Lh (blk_keep HBk0.out hgu (fun e => e))
       replace HSV := Lh (HSV.out.non hgu)
       have HMy := Lh (r21May (From B) ⟨x1, x2, x3⟩ (.slice A0 x2.length c0) (.slice A1 x3.length c1) u HSV.out)
       rw [HMq.out] at HMy
       have d0 := blk_cell HBk0.out 0 (v := .int .i64 x1) rfl
       have d1 := blk_cell HBk0.out 1 (v := .slice A0 x2.length c0) rfl
       have d2 := blk_cell HBk0.out 2 (v := .slice A1 x3.length c1) rfl
       have hlbs := blk_lt HBk0.out
       clear hgu
       go_wp2_with fail
       refine HMy.out.mono ?_
       rintro e u2 ⟨rfl, hgu⟩
       replace HZ := Lh (blk_keep HZ.out hgu (fun e => e))
       replace HGz := Lh (HGz.out.then_non hgu)
       have hlb2 := blk_lt HZ.out
       replace HSV := Lh (HSV.out.non hgu)
       replace HBk0 := Lh (blk_keep HBk0.out hgu (fun e => e))
       replace d0 := blk_cell HBk0.out 0 (v := .int .i64 x1) rfl
       replace d1 := blk_cell HBk0.out 1 (v := .slice A0 x2.length c0) rfl
       replace d2 := blk_cell HBk0.out 2 (v := .slice A1 x3.length c1) rfl
       have hlbs := blk_lt HBk0.out
       clear hgu
       go_wp2_with (refine sel none (.store 25 (.tmp 2) (.tmp 135)) ?_; refine wpList_store_rowA rfl 25 (.tmp 2) (.tmp 135) rfl b2 #[.int .i64 x1, .slice A0 x2.length c0, .slice A1 x3.length c1] rfl rfl 25 zStC HZ.out (by kernel_rfl) rfl (by kernel_rfl) ?_; intro W9 hgW9 hbW9)
       refine bodyPost_ret (res_ct Tryz.results99 _ _ b2 25 _ (0, 0) _ (.int .i64 0) rfl rfl hbW9 Tryz.underlying25 rfl (by kernel_rfl)) rfl (.inl ⟨_, _, _, HYes.out, rfl, ?_, HGz.out.then_new hgW9 (fun x e => by have e : x = b2 := e; have := HB2.out; omega)⟩)
       exact (HSV.out.keep hgW9 (fun b hb e => by have h1 : B ≤ b := hb; have e : b = b2 := e; omega)).mono (fun b hb => by have h1 : B ≤ b := hb; show w.heap.size ≤ b; omega)
end
end Go.Proofs.YtkgnlobabknkcaaGreat
