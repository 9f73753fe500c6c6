/- KernelOwn, part 1 of 4: what it needs beside the merged texts of KernelTime (from my texts XAny, XBts, XChS, XApartP, XKerV, XVmSm). -/
import Derived.Test.YtmnaleaghfbclaaGreatDoorMgKernelTimeA
import Derived.Test.YtmnaleaghfbclaaGreatDoorMgKernelTimeB
import Derived.Test.YtmnaleaghfbclaaGreatDoorMgKernelTimeC
import Derived.Test.YtmnaleaghfbclaaGreatDoorMgKernelTimeD
import Derived.Test.YtmnaleaghfbclaaGreatDoorMgKernelTimeE
import Derived.Test.YtmnaleaghfbclaaGreatDoorMgKernelTimeF
import Derived.Test.YtmnaleaghfbclaaGreatDoorMgKernelTimeG
import Derived.Test.YtmnaleaghfbclaaGreatDoorMgKernelTimeH
import Derived.Test.YtmnaleaghfbclaaGreatDoorMgKernelTimeI
import Derived.Test.YtmnaleaghfbclaaGreatDoorMgKernelTimeJ
import Derived.Test.YtmnaleaghfbclaaGreatDoorMgKernelTimeK
import Derived.Test.YtmnaleaghfbclaaGreatDoorMgKernelTimeL
import Derived.Test.YtmnaleaghfbclaaGreatDoorMgKernelTimeM
import Derived.Test.YtmnaleaghfbclaaGreatDoorMgKernelTimeN
import Derived.Test.YtmnaleaghfbclaaGreatDoorMgKernelTimeO
import Derived.Test.YtmnaleaghfbclaaGreatDoorMgKernelTimeP
import Derived.Test.YtmnaleaghfbclaaGreatDoorMgKernelTimeQ
import Derived.Test.YtmnaleaghfbclaaGreatDoorMgKernelTimeS
import Derived.Test.YtmnaleaghfbclaaGreatDoorMgKernelTimeShelf
import Derived.Test.YtmnaleaghfbclaaGreatDoorMgKernelTimeT
import Derived.Test.YtmnaleaghfbclaaGreatDoorMgKernelTimeU
import Derived.Test.YtmnaleaghfbclaaGreatDoorMgKernelTimeV
import Derived.Test.YtmnaleaghfbclaaGreatDoorMgKernelTimeW
import Derived.Test.YtmnaleaghfbclaaGreatDoorMgKernelTimeX
import Derived.Test.YtmnaleaghfbclaaGreatDoorMgKernelTimeY
import Derived.Test.YtmnaleaghfbclaaGreatDoorMgKernelTimeZ
import Derived.RegionTactic
import Derived.Deep.MidRow
import Derived.Test.YtmnaleaghfbclaaGreatDoorRows
import Derived.Deep.AppendLies
namespace Go.Proofs.YtmnaleaghfbclaaGreatDoor
set_option linter.unusedVariables false
set_option linter.unusedSimpArgs false
set_option maxHeartbeats 8000000
end Go.Proofs.YtmnaleaghfbclaaGreatDoor
namespace Go.Proofs
def Tryz.lays115_ren : Go.Shelf.Ren := ⟨fun | 115 => 66 | n => n, fun | 37 => 50 | 4 => 4 | 9 => 9 | 5 => 5 | n => n, fun | n => n⟩
theorem Tryz.lays115 : Go.Proofs.Lays.n115 Tryz.prog Tryz.lays115_ren := {
  mixed := by kernel_rfl
  f115 := Tryz.func66.trans (congrArg some (by kernel_rfl))
  t4 := Tryz.underlying4
  a4 := Tryz.isAgg4
  z4 := Tryz.sizeOf4
  v4 := Tryz.zeroValue4
  t9 := Tryz.underlying9
  a9 := Tryz.isAgg9
  z9 := Tryz.sizeOf9
  v9 := Tryz.zeroValue9
  t37 := Tryz.underlying50
  a37 := Tryz.isAgg50
  z37 := Tryz.sizeOf50
  v37 := Tryz.zeroValue50 }
open Go.Proofs Go.RowKit Go.Lib in
theorem Tryz.bytes_Equal_strs (v1 v2 : Value) (t1 t2 : ByteArray) (w : World) (h1 : (convert 50 9 v1).run Tryz.prog w = .ok (.string t1) w) (h2 : (convert 50 9 v2).run Tryz.prog w = .ok (.string t2) w) :
    Calls Tryz.prog 66 #[v1, v2] w fun e w' => e = .returned (.bool (t1.toList == t2.toList)) ∧ w' = w := Any.bytes_Equal_strs Tryz.lays115 v1 v2 t1 t2 w h1 h2
end Go.Proofs
namespace Go.Proofs.YtmnaleaghfbclaaGreatDoor
set_option linter.unusedVariables false
set_option linter.unusedSimpArgs false
set_option maxHeartbeats 8000000
section
open Go.RowKit
section
variable {P : Program} {md : Region.Mode} {ops : Array Oper} {Q : Exit → Act → World → Prop} {fuel : Nat} {listed : Array Bool} {a : Act} {w : World} {K : Act → World → Prop} {i : Nat}
theorem wpList_loadW {rest : List Oper} {o : Oper} (d : Option Tmp) (ty : TypeId) (x : Operand) (b off : Nat) (C : Array Value) (td : TypeDesc) (hdst : o.dst = d) (ho : o.op = .load ty x) (hw : Region.wanted o (yielded ops a.tmps) = true)
  (hx : a.eval x = .pointer (some ⟨b, off, none⟩)) (hR : w.rangeAt b off C.toList) (hu : P.underlying ty = some td) (hd : td.isRow = true) (hz : (P.info? ty).map (·.size) = some C.size) (h : wpList P ops Q rest (a.put d (.agg C)) w) : wpList P ops Q (o :: rest) a w := by
 subst hdst
 exact wpList_wanted hw fun K hK => wp_load_mid ty x ho b off hx C.toList td hR hu hd (by rw [hz, Array.length_toList]) (hK _ _ h)
end
end
section
open Go.RowKit
theorem str_of (A : Option Addr) (l : List UInt8) (c : Nat) (w : World) (h : Rd w A l) :
  (convert 50 9 (.slice A l.length c)).run Tryz.prog w = .ok (.string ⟨l.toArray⟩) w := by
 rcases Nat.eq_zero_or_pos l.length with h0 | h0
 ·obtain rfl := List.eq_nil_of_length_eq_zero h0
  cases A with
  | none => exact run_convert_bytes_nil w _ _ Tryz.underlying50 Tryz.underlying5 _ _ _ Tryz.underlying9
  | some a =>
   have hl : (loadCells a 0).run Tryz.prog w = .ok (([] : List Int).map (Value.int .u8)).toArray w := run_loadCells_list (P := Tryz.prog) w a [] (fun j v hj => by simp at hj)
   show (convert 50 9 (.slice (some a) 0 c)).run Tryz.prog w = _
   rw [run_convert_bytes_string w _ _ _ _ 0 c Tryz.underlying50 Tryz.underlying5 Tryz.underlying9, run_bytesToString w _ 0 c [] hl]
   rfl
 ·obtain ⟨b, o, rfl, _, hc⟩ := h.at_ h0
  rw [run_convert_bytes_arg w _ _ Tryz.underlying50 Tryz.underlying5 b o l.length c (l.map fun x => (x.toNat : Int)) (by simp) (fun i hi => by rw [hc i hi]; simp [List.getD, List.getElem?_eq_getElem hi]) _ Tryz.underlying9]
  congr 2
  unfold strOfNums
  congr 2
  rw [List.map_map]
  conv => rhs; rw [← List.map_id l]
  apply List.map_congr_left
  intro x _
  simp
end
section
open Go.RowKit
theorem msg_sl {I : Nat → Prop} {w : World} {a : List UInt8} {vs : List Value} (h : msgV I w a vs) : ∃ A c, vs = [.slice A a.length c] ∧ Rd w A a := by
 obtain ⟨m, rfl, ⟨A, c, rfl, _, _, hr, _⟩, _⟩ := h
 exact ⟨A, c, rfl, hr⟩
set_option maxRecDepth 100000 in
theorem eqMsgs_ok (I J : Nat → Prop) (w : World) (A A2 : Option Addr) (l : List (List UInt8)) (c c2 : Nat) (hr1 : RdL (msgV I) I 1 w A l) (hr2 : RdL (msgV J) J 1 w A2 l) (hc : l.length ≤ c) (hcm : c ≤ maxLen) (hc2 : l.length ≤ c2) (hcm2 : c2 ≤ maxLen) :
  Calls Tryz.prog 67 #[.slice A l.length c, .slice A2 l.length c2, .func (.func 66) #[] #[]] w fun e w' => e = .returned (.bool true) ∧ Chg Non w w' := by
 unfold maxLen at hcm hcm2
 have HR1 := Lib.hid hr1
 have HR2 := Lib.hid hr2
 clear hr1 hr2
 obtain ⟨n, hn⟩ : ∃ n, l.length = n := ⟨_, rfl⟩
 have HN := Lib.hid hn
 rw [hn] at hc hc2 ⊢
 clear hn
 go_enter Tryz.func67, Tryz.ntmps67
 go_wp2_with fail
 go_loopw [17] (fun iv wr => ∃ k : Nat, k ≤ n ∧ iv = .int .i64 k ∧ Hid (Chg Non w wr)) (fun iv _ => n - (intOf iv).toNat)
 case atStart => exact ⟨0, Nat.zero_le _, rfl, Lib.hid (Chg.refl _ _)⟩
 case round =>
  obtain ⟨k, hk, rfl, HG⟩ := hrel
  by_cases hlt : k < n
  ·obtain ⟨a, ha⟩ : ∃ a, l[k]? = some a := ⟨_, List.getElem?_eq_getElem (by rw [HN.out]; exact hlt)⟩
   obtain ⟨b, o, vs, rfl, _, _, hcell, hR⟩ := HR1.out k a ha
   obtain ⟨b2, o2, vs2, rfl, _, _, hcell2, hR2⟩ := HR2.out k a ha
   obtain ⟨A5, c5, rfl, hb5⟩ := msg_sl hR
   obtain ⟨A6, c6, rfl, hb6⟩ := msg_sl hR2
   have q1 : wr.cell? ⟨b, o + k, none⟩ = some (.slice A5 a.length c5) := by have := HG.out.cell_some (hcell 0 _ rfl) (fun e => e); simpa using this
   have q2 : wr.cell? ⟨b2, o2 + k, none⟩ = some (.slice A6 a.length c6) := by have := HG.out.cell_some (hcell2 0 _ rfl) (fun e => e); simpa using this
   have hs1 := str_of A5 a c5 wr (hb5.non HG.out)
   have hs2 := str_of A6 a c6 wr (hb6.non HG.out)
   have HEq := Lib.hid (Tryz.bytes_Equal_strs _ _ _ _ _ hs1 hs2)
   have hltd : decide ((k : Int) < (n : Int)) = true := by simpa using hlt
   clear ha hcell hcell2 hR hR2 hb5 hb6 hs1 hs2
   go_wp2_with fail
   refine HEq.out.mono ?_
   rintro e w' ⟨rfl, rfl⟩
   go_wp2_with fail
   exact ⟨⟨k + 1, by omega, by simp, HG⟩, by simp [intOf]; omega⟩
  ·obtain rfl : k = n := by omega
   have hltd : decide ((k : Int) < (k : Int)) = false := by simp
   go_wp2_with fail
   go_ret
   exact ⟨rfl, HG.out⟩
set_option maxRecDepth 100000 in
theorem chSame_eq (I J : Nat → Prop) (w : World) (q : Qu) (vs1 vs2 : List Value) (h1 : quV I w q vs1) (h2 : quV J w q vs2) :
  Calls Tryz.prog 37 #[.agg vs1.toArray, .agg vs2.toArray] w fun e w' => e = .returned (.bool true) ∧ Chg Non w w' := by
 obtain ⟨m1, rfl, ⟨A, c, rfl, hc, hcm, hr⟩, hbd, _⟩ := h1
 obtain ⟨m2, rfl, ⟨A2, c2, rfl, hc2, hcm2, hr2⟩, _, _⟩ := h2
 have he := eq_ch q.ch q.ch hbd hbd
 have HEq := Lib.hid (fun W (hg : Chg Non w W) => eqMsgs_ok I J W A A2 q.msgs c c2 (hr.non hg (fun _ _ h => msgV_non _ _ _ _ hg h)) (hr2.non hg (fun _ _ h => msgV_non _ _ _ _ hg h)) hc hcm hc2 hcm2)
 clear hr hr2 hbd
 obtain ⟨⟨a1, a2, a3, a4, a5⟩, ms⟩ := q
 simp only [Ch.C, Ch.L, Qu.L] at *
 go_enter Tryz.func37, Tryz.ntmps37
 go_wp2_with fail
 refine (HEq.out _ (((Chg.refl Non w).alloc _).alloc _)).mono ?_
 rintro e u ⟨rfl, hg⟩
 go_wp2_with fail
 go_ret
 exact ⟨by simp, (((Chg.refl Non w).alloc _).alloc _).then_non hg⟩
end
section
open Go.RowKit
structure SimL {α : Type} (R : α → α → Prop) (l m : List α) : Prop where
 len : l.length = m.length
 at_ : ∀ (i : Nat) (a b : α), l[i]? = some a → m[i]? = some b → R a b
namespace SimL
variable {α : Type} {R : α → α → Prop} {l m : List α}
theorem setL (h : SimL R l m) {i : Nat} {a : α} (hR : ∀ b, m[i]? = some b → R a b) : SimL R (l.set i a) m := by
 refine ⟨by simp [h.len], fun j x y hx hy => ?_⟩
 rw [List.getElem?_set] at hx
 by_cases hij : i = j
 ·subst hij
  rw [if_pos rfl] at hx
  split at hx
  ·injection hx with hx; subst hx; exact hR y hy
  ·cases hx
 ·rw [if_neg hij] at hx
  exact h.at_ j x y hx hy
theorem symm (h : SimL R l m) (hs : ∀ a b, R a b → R b a) : SimL R m l := ⟨h.len.symm, fun i a b ha hb => hs _ _ (h.at_ i b a hb ha)⟩
theorem refl (hr : ∀ a, R a a) (l : List α) : SimL R l l := ⟨rfl, fun i a b ha hb => by rw [ha] at hb; injection hb with hb; subst hb; exact hr a⟩
end SimL
def partR (L : Int → Prop) (p q : Pt) : Prop := p.id = q.id ∧ (L p.id → p = q)
theorem partR.symm {L : Int → Prop} (a b : Pt) (h : partR L a b) : partR L b a := ⟨h.1.symm, fun e => (h.2 (by rw [h.1]; exact e)).symm⟩
theorem waits_upd (m : List (Int × List UInt8)) (i : Int) (v : List UInt8) (id : Int) :
  ((((updI m i v).find? (fun p => p.1 == id)).map (·.2)).getD []) = if i = id then v else (((m.find? (fun p => p.1 == id)).map (·.2)).getD []) := by
 unfold updI
 by_cases hs : (m.find? (fun p => p.1 == i)).isSome = true
 ·rw [if_pos hs]
  induction m with
  | nil => simp at hs
  | cons x r ih =>
   rw [List.map_cons, List.find?_cons, List.find?_cons]
   by_cases hx : x.1 = i
   ·have hxb : (x.1 == i) = true := by simpa using hx
    rw [if_pos hxb]
    by_cases hid : i = id
    ·subst hid
     simp
    ·have h1 : (i == id) = false := by simpa using hid
     have h2 : (x.1 == id) = false := by rw [hx]; exact h1
     simp only [h1, h2, if_neg hid]
     -- the rest
     by_cases hs2 : (r.find? (fun p => p.1 == i)).isSome = true
     ·have := ih hs2
      rw [if_neg hid] at this
      exact this
     ·have : r.map (fun p => if p.1 == i then (i, v) else p) = r := by
       refine (List.map_congr_left (fun y hy => ?_)).trans (List.map_id' r)
       have : (y.1 == i) = false := by
        rw [Bool.not_eq_true, Option.isSome_eq_false_iff, Option.isNone_iff_eq_none, List.find?_eq_none] at hs2
        simpa using hs2 y hy
       simp [this]
      rw [this]
   ·have hxb : (x.1 == i) = false := by simpa using hx
    rw [hxb]
    simp only [Bool.false_eq_true, if_false]
    rw [List.find?_cons, hxb] at hs
    cases hxd : x.1 == id with
    | true =>
     have : x.1 = id := by simpa using hxd
     rw [if_neg (by rintro rfl; exact hx this)]
    | false => exact ih hs
 ·rw [if_neg hs]
  have hn : m.find? (fun p => p.1 == i) = none := by
   cases h : m.find? (fun p => p.1 == i) with
   | none => rfl
   | some y => rw [h] at hs; exact absurd rfl hs
  rw [List.find?_append]
  by_cases hid : i = id
  ·subst hid
   rw [hn, if_pos rfl]
   simp
  ·rw [if_neg hid]
   cases hf : m.find? (fun p => p.1 == id) with
   | none => simp [hid]
   | some y => rfl
theorem partR.refl {L : Int → Prop} (a : Pt) : partR L a a := ⟨rfl, fun _ => rfl⟩
theorem qGet_mem {i : Int} {l : List Qu} {q : Qu} (h : qGet i l = some q) : q ∈ l ∧ l[i.toNat]? = some q := by
 unfold qGet at h
 split at h
 ·cases h
 ·exact ⟨List.mem_of_getElem? h, h⟩
end
section
open Go.RowKit
theorem KerB.bound {N : Nat → Prop} {w : World} {k : Kn} {a : KAt} (h : KerB N w k a) : ∀ b, a.own b → b < w.heap.size := by
 rintro b (rfl | rfl | e)
 ·obtain ⟨vq, h1, _⟩ := h.cell
  exact blk_lt h1
 ·obtain ⟨m, ⟨⟨es, clock, h1, _⟩, _⟩, _⟩ := h.inp
  exact (Array.getElem?_eq_some_iff.1 h1).1
 ·obtain ⟨xss, ⟨_, h2⟩, _⟩ := h.parts
  rcases h2 with h0 | ⟨g, cap, cur, e2, hB, hb, r1⟩
  ·rw [h0.1] at e; cases e
  ·rw [e2] at e
   injection e with e
   subst e
   exact (Array.getElem?_eq_some_iff.1 hb).1
theorem sh_good1 : shK1.Good := sh_good.ticked
theorem sh_good2 : shK2.Good := sh_good1.ticked
theorem sh_good3 : shK3.Good := sh_good2.ticked
theorem sh_good4 : shK4.Good := sh_good3.ticked
theorem sh_in65 : shK4.inputE 1 (List.replicate 65 0) = 4 ∧ shK4.input 1 (List.replicate 65 0) = shK4 := by
 have h : shK4.inputE 1 (List.replicate 65 0) = 4 := by decide +kernel
 exact ⟨h, by unfold Kn.input; rw [h]; rfl⟩
theorem sh_in2 : shK4.inputE 2 [] = 2 ∧ shK4.input 2 [] = shK4 := by
 have h : shK4.inputE 2 [] = 2 := by decide +kernel
 exact ⟨h, by unfold Kn.input; rw [h]; rfl⟩
theorem sh_load : shK4.loadE 1 16 [1] = 180 ∧ shK4.load 1 16 [1] = shK4 := by
 obtain ⟨p, hp, _, _, _, hm⟩ := sh_part
 have h := load_some (id := 1) (at_ := 16) (b := [1]) (i := 0) sh_idx.1 hp
 have hE : memE p.mem 16 ([1] : List UInt8).length = 180 := by
  unfold memE
  simp [hm]
 rw [hE] at h
 exact ⟨h.1, h.2⟩
def shK5 : Kn := shK4.input 1 [1, 2]
theorem sh_in1 : shK4.inputE 1 [1, 2] = 0 := by decide +kernel
theorem sh_w5 : (shK5.waits 1).length = 2 := by decide +kernel
theorem sh_w4 : (shK4.waits 1).length = 0 ∧ (shK4.waits 2).length = 0 := by decide +kernel
theorem sh_phys : (physL ((shCfg.ps.map rgOf).zip (shK4.s.parts.map (·.mem)))).length = 4096 := by decide +kernel
theorem sh_part8 : ∃ p, shK4.s.parts[0]? = some p ∧ p.r.length = 8 ∧ p.pc = 0 ∧ p.st = 0 := by
 have h : (shK4.s.parts[0]?.map fun p => (decide (p.r.length = 8) && decide (p.pc = 0) && decide (p.st = 0))) = some true := by decide +kernel
 obtain ⟨p, hp, hq⟩ := Option.map_eq_some_iff.1 h
 simp only [Bool.and_eq_true, decide_eq_true_eq] at hq
 exact ⟨p, hp, hq.1.1, hq.1.2, hq.2⟩
theorem sh_small : shK4.Small := ⟨sh_good4.small.1, sh_good4.small.2.1, sh_good4.small.2.2⟩
theorem mk65 (W : World) : (Instr.makeSlice 50 (.int .i64 65) (.int .i64 65)).run Tryz.prog W = .ok (.slice (some ⟨W.heap.size, 0, none⟩) 65 65) (W.alloc (.cells (Array.replicate 65 (.int .u8 0)) 5)) := by
 have := mk_bytes (65 : Int) (by omega) (by omega) W
 simpa using this
theorem rd_zero {w : World} {g : Nat} {t : TypeId} {fr : Nat × Nat} (n : Nat) (h : w.heap[g]? = some (.cells (Array.replicate n (.int .u8 0)) t fr)) : Rd w (some ⟨g, 0, none⟩) (List.replicate n 0) := by
 intro i x hx
 obtain ⟨hi, rfl⟩ := List.getElem?_eq_some_iff.1 hx
 have hi2 : i < n := by simpa using hi
 exact ⟨g, 0, rfl, blk_cell h (0 + i) (by simp [hi2])⟩
theorem row4 {w : World} {g : Nat} {t : TypeId} {b0 b1 b2 b3 : Bool} (h : w.heap[g]? = some (.cells #[.bool b0, .bool b1, .bool b2, .bool b3] t (0, 0))) : w.cell? ⟨g, 0, none⟩ = some (.bool b0) ∧ w.cell? ⟨g, 1, none⟩ = some (.bool b1) ∧ w.cell? ⟨g, 2, none⟩ = some (.bool b2) ∧ w.cell? ⟨g, 3, none⟩ = some (.bool b3) := ⟨blk_cell h 0 rfl, blk_cell h 1 rfl, blk_cell h 2 rfl, blk_cell h 3 rfl⟩
set_option maxRecDepth 100000 in
theorem awake_ok (w : World) (hE : Env w) :
  Calls Tryz.prog 16 #[] w fun e w' => e = .returned (.bool true) ∧ Chg Non w w' := by
 have HE := Lib.hid hE
 clear hE
 go_enter Tryz.func16, Tryz.ntmps16
 go_wp2_with fail
 refine (shown_ok w HE.out).mono ?_
 rintro e u ⟨A1, A2, rfl, hc, hg⟩
 have HC := Lib.hid hc
 have HG := Lib.hid hg
 clear hc hg
 go_wp2_with fail
 refine (made_ok (fun _ => True) u shCfg 1 A1 A2 none 2 1 0 HC.out sh_fits sh_is ⟨by decide, by decide⟩).mono ?_
 rintro e v ⟨a, rfl, hk, hge, hg⟩
 have HKv : Hid (KerB a.own v shK0 a) := Lib.hid hk
 have HL0 : Hid (∀ b, a.own b → w.heap.size ≤ b) := Lib.hid (fun b e => Nat.le_trans HG.out.size (hge b e))
 have HGv := Lib.hid (HG.out.then_non hg)
 have HL : Hid (∀ b, a.own b → b < v.heap.size) := Lib.hid hk.bound
 clear hk hge hg
 go_wp2_with fail
 have hW0 : Chg Non v (v.alloc (.cells #[.bool false, .bool false, .bool true, .bool false] 4)) := (Chg.refl Non v).alloc _
 have HR0 := Lib.hid (heap_alloc_new v (.cells #[.bool false, .bool false, .bool true, .bool false] 4))
 have HK0 := Lib.hid (HKv.out.non hW0)
 have HG0 := Lib.hid (HGv.out.then_non hW0)
 clear hW0
 obtain ⟨r, hr⟩ : ∃ r, v.heap.size = r := ⟨_, rfl⟩
 rw [hr] at HR0 HL ⊢
 generalize v.alloc (.cells #[.bool false, .bool false, .bool true, .bool false] 4) = W0 at HR0 HK0 HG0 ⊢
 clear hr
 refine wp_loop_rounds 5 ?_
 rw [rounds_succ]
 go_wp2_with fail
 refine (tick_ok a.own W0 shK0 a HK0.out HK0.out.bound sh_good).mono ?_
 rintro e W1 ⟨rfl, hk, hg⟩
 have hrow := blk_keep HR0.out hg (fun e => by have := HK0.out.bound _ e; have := HL.out _ e; omega)
 have HR1 := Lib.hid hrow
 have HK1 : Hid (KerB a.own W1 shK1 a) := Lib.hid hk
 have HG1 := Lib.hid (HG0.out.then_new hg (fun x e => HL0.out x e))
 rw [sh_ends.1]
 obtain ⟨c0, c1, c2, c3⟩ := row4 hrow
 clear hk hg hrow
 go_wp2_with fail
 clear c0 c1 c2 c3
 rw [rounds_succ]
 go_wp2_with fail
 refine (tick_ok a.own W1 shK1 a HK1.out HK1.out.bound sh_good1).mono ?_
 rintro e W2 ⟨rfl, hk, hg⟩
 have hrow := blk_keep HR1.out hg (fun e => by have := HK1.out.bound _ e; have := HL.out _ e; omega)
 have HR2 := Lib.hid hrow
 have HK2 : Hid (KerB a.own W2 shK2 a) := Lib.hid hk
 have HG2 := Lib.hid (HG1.out.then_new hg (fun x e => HL0.out x e))
 rw [sh_ends.2.1]
 obtain ⟨c0, c1, c2, c3⟩ := row4 hrow
 clear hk hg hrow
 go_wp2_with fail
 clear c0 c1 c2 c3
 rw [rounds_succ]
 go_wp2_with fail
 refine (tick_ok a.own W2 shK2 a HK2.out HK2.out.bound sh_good2).mono ?_
 rintro e W3 ⟨rfl, hk, hg⟩
 have hrow := blk_keep HR2.out hg (fun e => by have := HK2.out.bound _ e; have := HL.out _ e; omega)
 have HR3 := Lib.hid hrow
 have HK3 : Hid (KerB a.own W3 shK3 a) := Lib.hid hk
 have HG3 := Lib.hid (HG2.out.then_new hg (fun x e => HL0.out x e))
 rw [sh_ends.2.2.1]
 obtain ⟨c0, c1, c2, c3⟩ := row4 hrow
 clear hk hg hrow
 go_wp2_with fail
 clear c0 c1 c2 c3
 rw [rounds_succ]
 go_wp2_with fail
 refine (tick_ok a.own W3 shK3 a HK3.out HK3.out.bound sh_good3).mono ?_
 rintro e W4 ⟨rfl, hk, hg⟩
 have hrow := blk_keep HR3.out hg (fun e => by have := HK3.out.bound _ e; have := HL.out _ e; omega)
 have HR4 := Lib.hid hrow
 have HK4 : Hid (KerB a.own W4 shK4 a) := Lib.hid hk
 have HG4 := Lib.hid (HG3.out.then_new hg (fun x e => HL0.out x e))
 rw [sh_ends.2.2.2]
 obtain ⟨c0, c1, c2, c3⟩ := row4 hrow
 clear hk hg hrow
 go_wp2_with fail
 clear c0 c1 c2 c3
 rw [rounds_succ]
 go_wp2_with fail
 refine (look_ok a.own W4 shK4 a 1 HK4.out).mono ?_
 rintro e W5 ⟨hlook, hg⟩
 have HK5 := Lib.hid (HK4.out.non hg)
 have HG5 := Lib.hid (HG4.out.then_non hg)
 clear hg
 obtain ⟨p, m, rfl, hpp, h8, hpc, hst, ho⟩ : ∃ (p : Pt) (m : Value), e = .returned (.tuple #[.agg (partC p m), .bool true]) ∧ shK4.s.parts[0]? = some p ∧ p.r.length = 8 ∧ p.pc = 0 ∧ p.st = 0 ∧ m.oneCell' = true := by
  obtain ⟨p, hp, h8, hpc, hst⟩ := sh_part8
  rcases hlook with ⟨j, x, m, hj, hx, e1, A, c, rfl, _⟩ | ⟨hj, _⟩
  ·have hj0 : j = 0 := by have := hj.symm.trans sh_idx.1; omega
   subst hj0
   rw [hp] at hx
   injection hx with hx
   subst hx
   exact ⟨p, _, e1, hp, h8, hpc, hst, rfl⟩
  ·rw [sh_idx.1] at hj
   omega
 clear hlook
 have HP := Lib.hid (And.intro hpp (And.intro hpc hst))
 clear hpp hpc hst
 go_wp2_with (refine sel none (.store 69 (.tmp 6) (.tmp 37)) ?_; refine Vm_stop ?_)
 refine HoleV.mk ?_
 refine wpList_store_rowA rfl 69 (.tmp 6) (.tmp 37) rfl W5.heap.size (partC p m) rfl rfl 69 zeroPart (blk_new _ _) (by rw [partC_size h8]; exact info_part) (by rw [partC_size h8]; rfl) (partC_one _ _ ho) ?_
 intro W6 hgW hbW
 have hNW : Chg Non W5 W6 := ((Chg.refl Non W5).alloc _).then_new hgW (fun x e => by omega)
 have HB6 := Lib.hid hbW
 have HK6 := Lib.hid (HK5.out.non hNW)
 have HG6 := Lib.hid (HG5.out.then_non hNW)
 have hL6 : ∀ b, a.own b → b ≠ W5.heap.size := fun b e => by have := HK5.out.bound b e; omega
 have HL6 := Lib.hid hL6
 obtain ⟨t, ht⟩ : ∃ t, W5.heap.size = t := ⟨_, rfl⟩
 rw [ht] at HB6 HL6 ⊢
 clear hNW hgW hbW hL6 ht
 go_wp2_with fail
 refine (at_ok a.own W6 shK4 a HK6.out).mono ?_
 rintro e W7 ⟨rfl, hg⟩
 rw [sh_at.1]
 have HK7 := Lib.hid (HK6.out.non hg)
 have HG7 := Lib.hid (HG6.out.then_non hg)
 have HB7 := Lib.hid (blk_keep HB6.out hg (fun e => e))
 clear hg
 go_wp2_with fail
 refine (state_ok a.own W7 shK4 a HK7.out sh_small).mono ?_
 rintro e W8 ⟨sb, sd, rfl, _, hg⟩
 rw [sh_at.2.1]
 have HK8 := Lib.hid (HK7.out.non hg)
 have HG8 := Lib.hid (HG7.out.then_non hg)
 have HB8 := Lib.hid (blk_keep HB7.out hg (fun e => e))
 clear hg
 obtain ⟨Z, hZ⟩ : ∃ Z, Array.replicate 65 (Value.int .u8 0) = Z := ⟨_, rfl⟩
 have hmk : ∀ W : World, (Instr.makeSlice 50 (.int .i64 65) (.int .i64 65)).run Tryz.prog W = .ok (.slice (some ⟨W.heap.size, 0, none⟩) 65 65) (W.alloc (.cells Z 5)) := fun W => by rw [← hZ]; exact mk65 W
 have hA8 : Chg Non W8 (W8.alloc (.cells Z 5)) := (Chg.refl Non W8).alloc _
 have hz8 := heap_alloc_new W8 (.cells Z 5)
 rw [← hZ] at hz8
 have HI9 := Lib.hid (input_ok a.own _ shK4 a 1 (some ⟨W8.heap.size, 0, none⟩) (List.replicate 65 0) 65 (HK8.out.non hA8) (HK8.out.non hA8).bound ⟨by decide, by decide⟩ (by rw [sh_w4.1]; decide) (hZ ▸ rd_zero 65 hz8) (by simp))
 rw [sh_in65.1, sh_in65.2] at HI9
 have HA8 := Lib.hid hA8
 clear hA8 hz8 hZ
 go_wp2_with (refine sel (some 45) (.field 30 (.tmp 44) 0) ?_; refine wpList_pureW (some 45) (.int .i64 1) rfl (by kernel_rfl) (by kernel_rfl) ?_)
 refine HI9.out.mono ?_
 rintro e W9 ⟨rfl, hk, hg⟩
 have HK9 := Lib.hid hk
 have HG9 := Lib.hid ((HG8.out.then_non HA8.out).then_new hg (fun x e => HL0.out x e))
 have HB9 := Lib.hid (blk_keep (blk_keep HB8.out HA8.out (fun e => e)) hg (fun e => HL6.out _ e rfl))
 clear hk hg hmk HI9 HA8
 have HI10 := Lib.hid (input_ok a.own W9 shK4 a 2 none [] 0 HK9.out HK9.out.bound ⟨by decide, by decide⟩ (by rw [sh_w4.2]; decide) (Rd.nil _ _) (by simp))
 rw [sh_in2.1, sh_in2.2] at HI10
 go_wp2_with fail
 refine HI10.out.mono ?_
 rintro e W10 ⟨rfl, hk, hg⟩
 have HK10 := Lib.hid hk
 have HG10 := Lib.hid (HG9.out.then_new hg (fun x e => HL0.out x e))
 have HB10 := Lib.hid (blk_keep HB9.out hg (fun e => HL6.out _ e rfl))
 clear hk hg HI10
 have HA10 : Hid (Chg Non W10 (W10.alloc (.cells #[.int .u8 1] 5))) := Lib.hid ((Chg.refl Non W10).alloc _)
 have HI11 := Lib.hid (load_ok a.own _ shK4 a 1 16 (some ⟨W10.heap.size, 0, none⟩) [1] 1 (HK10.out.non HA10.out) (HK10.out.non HA10.out).bound (fun p hp => partOk_mem (sh_good4.pm p hp)) ⟨by decide, by decide⟩ (by
   have hb := heap_alloc_new W10 (.cells #[.int .u8 1] 5)
   intro i x hx
   refine ⟨_, _, rfl, blk_cell hb _ ?_⟩
   rcases i with _ | i
   · simp at hx; subst hx; rfl
   · simp at hx) (by decide))
 rw [sh_load.1, sh_load.2] at HI11
 go_wp2_with fail
 refine HI11.out.mono ?_
 rintro e W11 ⟨rfl, hk, hg⟩
 have HK11 := Lib.hid hk
 have HG11 := Lib.hid ((HG10.out.then_non HA10.out).then_new hg (fun x e => HL0.out x e))
 have HB11 := Lib.hid (blk_keep (blk_keep HB10.out HA10.out (fun e => e)) hg (fun e => HL6.out _ e rfl))
 clear hk hg HI11 HA10
 have t11 : W11.cell? ⟨t, 11, none⟩ = some (.int .u32 0) := by
  have h := blk_cell HB11.out 11 ((partC_end h8 m 0 (by omega)).trans rfl)
  rw [HP.out.2.1] at h
  exact h
 have t12 : W11.cell? ⟨t, 12, none⟩ = some (.int .u8 0) := by
  have h := blk_cell HB11.out 12 ((partC_end h8 m 1 (by omega)).trans rfl)
  rw [HP.out.2.2] at h
  exact h
 go_wp2_with fail
 clear t11 t12
 have HI12 := Lib.hid (phys_ok a.own W11 shK4 a HK11.out HK11.out.bound (by rw [sh_c.1, sh_at.2.2.1]; rfl) (by rw [sh_at.2.2.1]; decide) (by rw [sh_at.2.2.1]; decide) (fun i p q hp hq => by
   rw [sh_c.1] at hp
   have hi : i = 0 := by have := (List.getElem?_eq_some_iff.1 hp).1; simp [shCfg] at this; omega
   subst hi
   obtain ⟨p', hp', _, _, _, hm'⟩ := sh_part
   rw [hp'] at hq
   injection hq with hq
   subst hq
   simp [shCfg] at hp
   subst hp
   exact ⟨by decide +kernel, by rw [hm']; rfl⟩) (by rw [sh_c.1]; exact regAll_one (by decide +kernel)))
 rw [sh_c.1] at HI12
 refine HI12.out.mono ?_
 rintro e W12 ⟨v9, rfl, ⟨A9, c9, rfl, _⟩, hg⟩
 rw [sh_phys]
 have HK12 := Lib.hid (HK11.out.non hg)
 have HG12 := Lib.hid (HG11.out.then_non hg)
 clear hg HI12
 have HA12 : Hid (Chg Non W12 (W12.alloc (.cells #[.int .u8 1, .int .u8 2] 5))) := Lib.hid ((Chg.refl Non W12).alloc _)
 have HI13 := Lib.hid (input_ok a.own _ shK4 a 1 (some ⟨W12.heap.size, 0, none⟩) [1, 2] 2 (HK12.out.non HA12.out) (HK12.out.non HA12.out).bound ⟨by decide, by decide⟩ (by rw [sh_w4.1]; decide) (by
   have hb := heap_alloc_new W12 (.cells #[.int .u8 1, .int .u8 2] 5)
   intro i x hx
   refine ⟨_, _, rfl, blk_cell hb _ ?_⟩
   rcases i with _ | _ | i
   · simp at hx; subst hx; rfl
   · simp at hx; subst hx; rfl
   · simp at hx) (by decide))
 rw [sh_in1] at HI13
 go_wp2_with fail
 refine HI13.out.mono ?_
 rintro e W13 ⟨rfl, hk, hg⟩
 have HK13 : Hid (KerB a.own W13 shK5 a) := Lib.hid hk
 have HG13 := Lib.hid ((HG12.out.then_non HA12.out).then_new hg (fun x e => HL0.out x e))
 clear hk hg HI13 HA12
 have HI14 := Lib.hid (waits_ok a.own W13 shK5 a 1 ⟨by decide, by decide⟩ HK13.out)
 rw [sh_w5] at HI14
 go_wp2_with fail
 refine HI14.out.mono ?_
 rintro e W14 ⟨rfl, hg⟩
 have HG14 := Lib.hid (HG13.out.then_non hg)
 clear hg HI14
 go_wp2_with fail
 go_ret
 exact ⟨rfl, HG14.out⟩
end
section
open Go.RowKit
theorem keyLits_u32n {P : Program} {e : TypeId} {D : Nat} (he : P.underlying e = some (.int .u32)) (b : Nat) (h : b < 4294967296) : P.keyLits (D + 1) e [.int .u32 b] = some [.int .u32 (b : Int)] := by
 unfold Program.keyLits
 rw [he]
 have hw : (Lit.int .u32 (b : Int)).wf = true := WalkArith.wf_u32 (by omega)
 simp only [true_and, hw, if_true]
def regC (p : Pt) : Array Value := #[.int .u32 (p.g 0 : Nat), .int .u32 (p.g 1 : Nat), .int .u32 (p.g 2 : Nat), .int .u32 (p.g 3 : Nat), .int .u32 (p.g 4 : Nat), .int .u32 (p.g 5 : Nat), .int .u32 (p.g 6 : Nat), .int .u32 (p.g 7 : Nat)]
def regLits (p : Pt) : List Lit := [.int .u32 (p.g 0 : Nat), .int .u32 (p.g 1 : Nat), .int .u32 (p.g 2 : Nat), .int .u32 (p.g 3 : Nat), .int .u32 (p.g 4 : Nat), .int .u32 (p.g 5 : Nat), .int .u32 (p.g 6 : Nat), .int .u32 (p.g 7 : Nat)]
set_option maxRecDepth 100000 in
theorem keyLits_reg (p : Pt) (h : p.Bd) : Tryz.prog.keyLits 3 67 (regC p).toList = some (regLits p) := by
 unfold Program.keyLits
 rw [Tryz.underlying67]
 have c8 : Tryz.prog.cellsOf 67 = 8 := by kernel_rfl
 have c1 : Tryz.prog.cellsOf 66 = 1 := by kernel_rfl
 have k : ∀ i, Tryz.prog.keyLits 2 66 [.int .u32 (p.g i : Nat)] = some [.int .u32 ((p.g i : Nat) : Int)] := fun i => keyLits_u32n (D := 1) Tryz.underlying66 _ (h.rb i)
 simp [regC, c1, c8, k, regLits, List.range, List.range.loop]
theorem reg_formed (p : Pt) : (Value.agg (regC p)).formed Tryz.prog 67 = true := by
 have c8 : Tryz.prog.cellsOf 67 = 8 := by kernel_rfl
 unfold Value.formed
 rw [Tryz.underlying67]
 simp [c8, regC]
theorem eq_reg (p : Pt) (h : p.Bd) (w : World) : (binOp .eql 67 (.agg (regC p)) (.agg (regC p))).run Tryz.prog w = .ok (.bool true) w := by
 have := (eq_agg (P := Tryz.prog) (t := 67) (p := True) (by simp) 3 (by omega) (by kernel_rfl) (reg_formed p) (reg_formed p) (keyLits_reg p h) (keyLits_reg p h) w).1
 simpa using this
theorem PartB.regs {W : World} {b : Nat} {p : Pt} {m : Value} (h : PartB W b p m) : W.rangeAt b 3 (regC p).toList := by
 intro j v hv
 have hj : j < 8 := by have := (List.getElem?_eq_some_iff.1 hv).1; simpa [regC] using this
 have hr := h.reg j hj
 rw [hr]
 have h' : j = 0 ∨ j = 1 ∨ j = 2 ∨ j = 3 ∨ j = 4 ∨ j = 5 ∨ j = 6 ∨ j = 7 := by omega
 rcases h' with rfl | rfl | rfl | rfl | rfl | rfl | rfl | rfl <;> simpa [regC] using hv
theorem info_regs : (Tryz.prog.info? 67).map (·.size) = some 8 := by kernel_rfl
set_option maxRecDepth 100000 in
theorem Same_eq (p : Pt) (A1 A2 : Option Addr) (l : List UInt8) (c1 c2 : Nat) (w : World) (hb : p.Bd) (h1 : Rd w A1 l) (h2 : Rd w A2 l) :
  Calls Tryz.prog 35 #[.agg (partC p (.slice A1 l.length c1)), .agg (partC p (.slice A2 l.length c2))] w fun e w' => e = .returned (.bool true) ∧ Chg Non w w' := by
 have h8 := hb.r8
 have hg0 : Chg Non w ((w.alloc (.cells (partC p (.slice A1 l.length c1)) 69)).alloc (.cells (partC p (.slice A2 l.length c2)) 69)) := ((Chg.refl Non w).alloc _).alloc _
 have hp1 : PartB ((w.alloc (.cells (partC p (.slice A1 l.length c1)) 69)).alloc (.cells (partC p (.slice A2 l.length c2)) 69)) w.heap.size p (.slice A1 l.length c1) := ⟨al_2_0 _ _ _, h8⟩
 have hp2 : PartB ((w.alloc (.cells (partC p (.slice A1 l.length c1)) 69)).alloc (.cells (partC p (.slice A2 l.length c2)) 69)) (w.heap.size + 1) p (.slice A2 l.length c2) := ⟨al_2_1 _ _ _, h8⟩
 have hs1 := str_of A1 l c1 _ (h1.non hg0)
 have hs2 := str_of A2 l c2 _ (h2.non hg0)
 obtain ⟨C1, hC1⟩ : ∃ C, partC p (.slice A1 l.length c1) = C := ⟨_, rfl⟩
 obtain ⟨C2, hC2⟩ : ∃ C, partC p (.slice A2 l.length c2) = C := ⟨_, rfl⟩
 have z1 : C1.size = 14 := by rw [← hC1]; exact partC_size h8 _
 have z2 : C2.size = 14 := by rw [← hC2]; exact partC_size h8 _
 rw [hC1, hC2] at hp1 hp2 hg0 hs1 hs2 ⊢
 clear hC1 hC2
 obtain ⟨W, hW⟩ : ∃ W, (w.alloc (.cells C1 69)).alloc (.cells C2 69) = W := ⟨_, rfl⟩
 have HP1 := Lib.hid hp1
 have HP2 := Lib.hid hp2
 have HG0 := Lib.hid hg0
 have HEq := Lib.hid (Tryz.bytes_Equal_strs _ _ _ _ _ hs1 hs2)
 have he8 := eq_reg p hb
 obtain ⟨a0, a1, a2, a3, a4, a5⟩ := hp1.cells
 obtain ⟨d0, d1, d2, d3, d4, d5⟩ := hp2.cells
 clear hp1 hp2 hg0 hs1 hs2 h1 h2 hW W
 go_enter Tryz.func35, Tryz.ntmps35
 go_wp2_with (first
   | (refine sel (some 26) (.load _ (.tmp 25)) ?_; refine Vm_stop ?_))
 refine HoleV.mk ?_
 refine wpList_loadW (some 26) 67 (.tmp 25) w.heap.size 3 (regC p) _ rfl rfl (by kernel_rfl) rfl HP1.out.regs Tryz.underlying67 rfl info_regs ?_
 go_wp2_with (first
   | (refine sel (some 28) (.load _ (.tmp 27)) ?_; refine Vm_stop ?_))
 refine HoleV.mk ?_
 refine wpList_loadW (some 28) 67 (.tmp 27) (w.heap.size + 1) 3 (regC p) _ rfl rfl (by kernel_rfl) rfl HP2.out.regs Tryz.underlying67 rfl info_regs ?_
 go_wp2_with fail
 refine HEq.out.mono ?_
 rintro e w' ⟨rfl, rfl⟩
 go_wp2_with fail
 go_ret
 exact ⟨by simp, HG0.out⟩
end
end Go.Proofs.YtmnaleaghfbclaaGreatDoor
