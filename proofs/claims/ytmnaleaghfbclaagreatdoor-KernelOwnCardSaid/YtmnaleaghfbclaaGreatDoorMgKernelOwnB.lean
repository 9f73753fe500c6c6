/- KernelOwn, part 2 of 4: what it needs beside the merged texts of KernelTime (from my texts XOwR, XGrB, XGrL, XOwnP, XApSim, XTwo). -/
import Derived.Test.YtmnaleaghfbclaaGreatDoorMgKernelTimeA
import Derived.Test.YtmnaleaghfbclaaGreatDoorMgKernelTimeB
import Derived.Test.YtmnaleaghfbclaaGreatDoorMgKernelTimeC
import Derived.Test.YtmnaleaghfbclaaGreatDoorMgKernelTimeD
import Derived.Test.YtmnaleaghfbclaaGreatDoorMgKernelTimeE
import Derived.Test.YtmnaleaghfbclaaGreatDoorMgKernelTimeF
import Derived.Test.YtmnaleaghfbclaaGreatDoorMgKernelTimeG
import Derived.Test.YtmnaleaghfbclaaGreatDoorMgKernelTimeH
import Derived.Test.YtmnaleaghfbclaaGreatDoorMgKernelTimeI
import Derived.Test.YtmnaleaghfbclaaGreatDoorMgKernelTimeJ
import Derived.Test.YtmnaleaghfbclaaGreatDoorMgKernelTimeK
import Derived.Test.YtmnaleaghfbclaaGreatDoorMgKernelTimeL
import Derived.Test.YtmnaleaghfbclaaGreatDoorMgKernelTimeM
import Derived.Test.YtmnaleaghfbclaaGreatDoorMgKernelTimeN
import Derived.Test.YtmnaleaghfbclaaGreatDoorMgKernelTimeO
import Derived.Test.YtmnaleaghfbclaaGreatDoorMgKernelTimeP
import Derived.Test.YtmnaleaghfbclaaGreatDoorMgKernelTimeQ
import Derived.Test.YtmnaleaghfbclaaGreatDoorMgKernelTimeS
import Derived.Test.YtmnaleaghfbclaaGreatDoorMgKernelTimeShelf
import Derived.Test.YtmnaleaghfbclaaGreatDoorMgKernelTimeT
import Derived.Test.YtmnaleaghfbclaaGreatDoorMgKernelTimeU
import Derived.Test.YtmnaleaghfbclaaGreatDoorMgKernelTimeV
import Derived.Test.YtmnaleaghfbclaaGreatDoorMgKernelTimeW
import Derived.Test.YtmnaleaghfbclaaGreatDoorMgKernelTimeX
import Derived.Test.YtmnaleaghfbclaaGreatDoorMgKernelTimeY
import Derived.Test.YtmnaleaghfbclaaGreatDoorMgKernelTimeZ
import Derived.Test.YtmnaleaghfbclaaGreatDoorMgKernelOwnA
namespace Go.Proofs.YtmnaleaghfbclaaGreatDoor
set_option linter.unusedVariables false
set_option linter.unusedSimpArgs false
set_option maxHeartbeats 8000000
section
open Go.RowKit
def subW : List Bool → Option Code → Option Code
 | [], o => o
 | d :: r, o => match o with
  | some (.seq a b) => subW r (some (if d then b else a))
  | some (.block _ a) => subW r (some a)
  | some (.loop a) => subW r (some a)
  | _ => none
theorem codeW_of {P : Program} {o : Option Code} {cd c : Code} {Q : Exit → Act → World → Prop} {a : Act} {w : World} (h : o = some cd) (hc : o = some c) (hw : c.wp P Q a w) : cd.wp P Q a w := by
 rw [h] at hc
 injection hc with hc
 subst hc
 exact hw
def sl30 (y : Nat → Value) (p gs gz gw gi j : Nat) : Array Value := #[y 0, y 1, y 2, y 3, y 4, y 5, y 6, .pointer (some ⟨p, 0, none⟩), y 8, y 9, .pointer (some ⟨gs, 0, none⟩), y 11, .pointer (some ⟨gz, 0, none⟩), .pointer (some ⟨gw, 0, none⟩), y 14, .pointer (some ⟨gi, 0, none⟩), .int .i64 (j : Nat), y 17, y 18, y 19, y 20, y 21, y 22, y 23, y 24, y 25, y 26, y 27, y 28, y 29, y 30, y 31, y 32, y 33, y 34, y 35, y 36, y 37, y 38, y 39, y 40, y 41, y 42, y 43, y 44, y 45, y 46, y 47, y 48, y 49, y 50, y 51, y 52, y 53, y 54, y 55, y 56, y 57, y 58, y 59, y 60, y 61, y 62, y 63, y 64, y 65, y 66, y 67, y 68, y 69, y 70, y 71, y 72, y 73, y 74, y 75, y 76, y 77, y 78, y 79, y 80, y 81, y 82, y 83, y 84, y 85, y 86, y 87, y 88, y 89, y 90, y 91, y 92, y 93, y 94, y 95, y 96, y 97, y 98, y 99, y 100, y 101, y 102, y 103, y 104, y 105, y 106, y 107, y 108, y 109, y 110, y 111, y 112, y 113, y 114, y 115, y 116, y 117, y 118, y 119, y 120, y 121, y 122, y 123, y 124, y 125, y 126, y 127, y 128, y 129, y 130, y 131, y 132, y 133, y 134, y 135, y 136, y 137, y 138, y 139, y 140, y 141, y 142, y 143, y 144, y 145, y 146, y 147, y 148, y 149, y 150, y 151, y 152, y 153, y 154, y 155, y 156, y 157, y 158, y 159, y 160, y 161, y 162, y 163, y 164, y 165, y 166, y 167, y 168, y 169, y 170, y 171, y 172, y 173, y 174, y 175, y 176, y 177, y 178, y 179, y 180, y 181, y 182, y 183, y 184, y 185, y 186, y 187, y 188, y 189, y 190, y 191, y 192, y 193, y 194, y 195, y 196, y 197, y 198, y 199, y 200, y 201, y 202, y 203, y 204, y 205, y 206, y 207, y 208, y 209, y 210, y 211, y 212, y 213, y 214, y 215, y 216, y 217, y 218, y 219, y 220, y 221, y 222, y 223, y 224]
def put30 (z : Nat → Value) (a : Act) : Act := ((((((((((((((((((((((((((((((((((((((((((a.put (some 140) (z 140)).put (some 141) (z 141)).put (some 142) (z 142)).put (some 143) (z 143)).put (some 144) (z 144)).put (some 145) (z 145)).put (some 146) (z 146)).put (some 147) (z 147)).put (some 148) (z 148)).put (some 149) (z 149)).put (some 150) (z 150)).put (some 151) (z 151)).put (some 152) (z 152)).put (some 153) (z 153)).put (some 154) (z 154)).put (some 155) (z 155)).put (some 156) (z 156)).put (some 157) (z 157)).put (some 158) (z 158)).put (some 159) (z 159)).put (some 160) (z 160)).put (some 161) (z 161)).put (some 162) (z 162)).put (some 163) (z 163)).put (some 164) (z 164)).put (some 165) (z 165)).put (some 166) (z 166)).put (some 167) (z 167)).put (some 168) (z 168)).put (some 169) (z 169)).put (some 170) (z 170)).put (some 171) (z 171)).put (some 172) (z 172)).put (some 173) (z 173)).put (some 174) (z 174)).put (some 175) (z 175)).put (some 176) (z 176)).put (some 177) (z 177)).put (some 178) (z 178)).put (some 179) (z 179)).put (some 180) (z 180)).put (some 181) (z 181)).put (some 182) (.bool false)
def P30 (wr : World) (a0 : Act) (e : Exit) (a : Act) (v : World) : Prop := e = .normal ∧ ∃ z, a = put30 z a0 ∧ Chg Non wr v
theorem P30.mk {wr v : World} {a0 : Act} {T : Array Value} (h : ⟨T, []⟩ = put30 (fun j => T.getD j undef) a0) (hg : Chg Non wr v) : P30 wr a0 .normal ⟨T, []⟩ v := ⟨rfl, _, h, hg⟩
def sl36 (y : Nat → Value) (gs gz gi gc j : Nat) : Array Value := #[y 0, y 1, y 2, y 3, y 4, y 5, y 6, y 7, y 8, y 9, .pointer (some ⟨gs, 0, none⟩), y 11, .pointer (some ⟨gz, 0, none⟩), y 13, y 14, .pointer (some ⟨gi, 0, none⟩), y 16, .int .i64 (j : Nat), .pointer (some ⟨gc, 0, none⟩), y 19, y 20, y 21, y 22, y 23, y 24, y 25, y 26, y 27, y 28, y 29, y 30, y 31, y 32, y 33, y 34, y 35, y 36, y 37, y 38, y 39, y 40, y 41, y 42, y 43, y 44, y 45, y 46, y 47, y 48, y 49, y 50, y 51, y 52, y 53, y 54, y 55, y 56, y 57, y 58, y 59, y 60, y 61, y 62, y 63, y 64, y 65, y 66, y 67, y 68, y 69, y 70, y 71, y 72, y 73, y 74, y 75, y 76, y 77, y 78, y 79, y 80, y 81, y 82, y 83, y 84, y 85, y 86, y 87, y 88, y 89, y 90, y 91, y 92, y 93, y 94, y 95, y 96, y 97, y 98, y 99, y 100, y 101, y 102, y 103, y 104, y 105, y 106, y 107, y 108, y 109, y 110, y 111, y 112, y 113, y 114, y 115, y 116, y 117, y 118, y 119, y 120, y 121, y 122, y 123, y 124, y 125, y 126, y 127, y 128, y 129, y 130, y 131, y 132, y 133, y 134, y 135, y 136, y 137, y 138, y 139, y 140, y 141, y 142, y 143, y 144, y 145, y 146, y 147, y 148, y 149, y 150, y 151, y 152, y 153, y 154, y 155, y 156, y 157, y 158, y 159, y 160, y 161, y 162, y 163, y 164, y 165, y 166, y 167, y 168, y 169, y 170, y 171, y 172, y 173, y 174, y 175, y 176, y 177, y 178, y 179, y 180, y 181, y 182, y 183, y 184, y 185, y 186, y 187, y 188, y 189, y 190, y 191, y 192, y 193, y 194, y 195, y 196, y 197, y 198, y 199, y 200, y 201, y 202, y 203, y 204, y 205, y 206, y 207, y 208, y 209, y 210, y 211, y 212, y 213, y 214, y 215, y 216, y 217, y 218, y 219, y 220, y 221, y 222, y 223, y 224]
def put36 (z : Nat → Value) (a : Act) : Act := (((((((((((((((((((((((((a.put (some 196) (z 196)).put (some 197) (z 197)).put (some 198) (z 198)).put (some 199) (z 199)).put (some 200) (z 200)).put (some 201) (z 201)).put (some 202) (z 202)).put (some 203) (z 203)).put (some 204) (z 204)).put (some 205) (z 205)).put (some 206) (z 206)).put (some 207) (z 207)).put (some 208) (z 208)).put (some 209) (z 209)).put (some 210) (z 210)).put (some 211) (z 211)).put (some 212) (z 212)).put (some 213) (z 213)).put (some 214) (z 214)).put (some 215) (z 215)).put (some 216) (z 216)).put (some 217) (z 217)).put (some 218) (z 218)).put (some 219) (z 219)).put (some 220) (z 220)).put (some 221) (.bool false)
def P36 (wr : World) (a0 : Act) (e : Exit) (a : Act) (v : World) : Prop := e = .normal ∧ ∃ z, a = put36 z a0 ∧ Chg Non wr v
theorem P36.mk {wr v : World} {a0 : Act} {T : Array Value} (h : ⟨T, []⟩ = put36 (fun j => T.getD j undef) a0) (hg : Chg Non wr v) : P36 wr a0 .normal ⟨T, []⟩ v := ⟨rfl, _, h, hg⟩
set_option maxRecDepth 100000 in
theorem r30_same (wr : World) (p gs gz gw gi j n ci cz ri rz : Nat) (hji : (j : Int) < (n : Int)) (pid sp : Int) (i1 : wr.cell? ⟨gi, 1, none⟩ = some (.slice (some ⟨ri, 0, none⟩) n ci)) (ic : wr.cell? ⟨ri, j * 14, none⟩ = some (.int .i64 pid)) (s1 : wr.cell? ⟨gs, 1, none⟩ = some (.int .i64 sp)) (z1 : wr.cell? ⟨gz, 1, none⟩ = some (.slice (some ⟨rz, 0, none⟩) n cz)) (hsp : pid = sp) (cd : Code) (hcd : subW [true, true, true, true, false, true, false, false, true, false, false, true, true, false, false, false, false, true, true, true, true, true, true, true, false, true, false, false, true, false, false, false] Tryz.f6.body = some cd) (T : Array Value) (hT : T = sl30 (fun j => T.getD j undef) p gs gz gw gi j) :
  cd.wp Tryz.prog (P30 wr ⟨T, []⟩) ⟨T, []⟩ wr := by
 refine codeW_of hcd rfl ?_
 rw [hT]
 generalize (fun j => T.getD j undef) = y
 clear hT T hcd cd
 simp only [sl30]
 subst hsp
 have hbe : ((pid : Int) != pid) = false := by simp
 have HVd : Hid (Chg Non wr wr.drew) := Lib.hid ((Chg.refl Non wr).drew)
 refine wp_region_held_drew (S := fun W => Chg Non wr.drew W) (by kernel_rfl) (Chg.refl Non _) (fun hHeld => ?_)
 clear hHeld
 obtain ⟨V, hV⟩ : ∃ V, wr.drew = V := ⟨_, rfl⟩
 rw [hV] at HVd ⊢
 clear hV
 have HV := Lib.hid (Chg.refl Non V)
 have i1 := HVd.out.cell_some i1 (fun e => e)
 have ic := HVd.out.cell_some ic (fun e => e)
 have s1 := HVd.out.cell_some s1 (fun e => e)
 have z1 := HVd.out.cell_some z1 (fun e => e)
 refine hp 0 140 (.pointer (some ⟨gi, 1, none⟩)) rfl HV.out ?_ (hQ := fun _ _ _ h => absurd h.1 (by simp))
 refine hp 1 141 (.slice (some ⟨ri, 0, none⟩) n ci) rfl HV.out ?_ (he := (fun W hW => by have hc := hW.cell_some i1 (fun e => e); go_simp)) (hQ := fun _ _ _ h => absurd h.1 (by simp))
 refine hp 2 142 (.int .i64 (j : Nat)) rfl HV.out ?_ (hQ := fun _ _ _ h => absurd h.1 (by simp))
 refine hp 3 143 (.pointer (some ⟨ri, j * 14, none⟩)) rfl HV.out ?_ (hQ := fun _ _ _ h => absurd h.1 (by simp))
 refine hp 4 144 (.pointer (some ⟨ri, j * 14, none⟩)) rfl HV.out ?_ (hQ := fun _ _ _ h => absurd h.1 (by simp))
 refine hp 5 145 (.int .i64 pid) rfl HV.out ?_ (he := (fun W hW => by have hc := hW.cell_some ic (fun e => e); go_simp)) (hQ := fun _ _ _ h => absurd h.1 (by simp))
 refine hp 6 146 (.pointer (some ⟨gs, 1, none⟩)) rfl HV.out ?_ (hQ := fun _ _ _ h => absurd h.1 (by simp))
 refine hp 7 147 (.int .i64 pid) rfl HV.out ?_ (he := (fun W hW => by have hc := hW.cell_some s1 (fun e => e); go_simp)) (hQ := fun _ _ _ h => absurd h.1 (by simp))
 refine hp 8 148 (.bool false) rfl HV.out ?_ (hQ := fun _ _ _ h => absurd h.1 (by simp))
 refine hp 9 149 (.bool false) rfl HV.out ?_ (hQ := fun _ _ _ h => absurd h.1 (by simp))
 refine hs 10 150 rfl HV.out ?_ (hQ := fun _ _ _ h => absurd h.1 (by simp))
 refine hs 11 151 rfl HV.out ?_ (hQ := fun _ _ _ h => absurd h.1 (by simp))
 refine hs 12 152 rfl HV.out ?_ (hQ := fun _ _ _ h => absurd h.1 (by simp))
 refine hs 13 153 rfl HV.out ?_ (hQ := fun _ _ _ h => absurd h.1 (by simp))
 refine hs 14 154 rfl HV.out ?_ (hQ := fun _ _ _ h => absurd h.1 (by simp))
 refine hs 15 155 rfl HV.out ?_ (hQ := fun _ _ _ h => absurd h.1 (by simp))
 refine hs 16 156 rfl HV.out ?_ (hQ := fun _ _ _ h => absurd h.1 (by simp))
 refine hs 17 157 rfl HV.out ?_ (hQ := fun _ _ _ h => absurd h.1 (by simp))
 refine hs 18 158 rfl HV.out ?_ (hQ := fun _ _ _ h => absurd h.1 (by simp))
 refine hs 19 159 rfl HV.out ?_ (hQ := fun _ _ _ h => absurd h.1 (by simp))
 refine hs 20 160 rfl HV.out ?_ (hQ := fun _ _ _ h => absurd h.1 (by simp))
 refine hs 21 161 rfl HV.out ?_ (hQ := fun _ _ _ h => absurd h.1 (by simp))
 refine hs 22 162 rfl HV.out ?_ (hQ := fun _ _ _ h => absurd h.1 (by simp))
 refine hs 23 163 rfl HV.out ?_ (hQ := fun _ _ _ h => absurd h.1 (by simp))
 refine hs 24 164 rfl HV.out ?_ (hQ := fun _ _ _ h => absurd h.1 (by simp))
 refine hs 25 165 rfl HV.out ?_ (hQ := fun _ _ _ h => absurd h.1 (by simp))
 refine hs 26 166 rfl HV.out ?_ (hQ := fun _ _ _ h => absurd h.1 (by simp))
 refine hs 27 167 rfl HV.out ?_ (hQ := fun _ _ _ h => absurd h.1 (by simp))
 refine hs 28 168 rfl HV.out ?_ (hQ := fun _ _ _ h => absurd h.1 (by simp))
 refine hs 29 169 rfl HV.out ?_ (hQ := fun _ _ _ h => absurd h.1 (by simp))
 refine hs 30 170 rfl HV.out ?_ (hQ := fun _ _ _ h => absurd h.1 (by simp))
 refine hs 31 171 rfl HV.out ?_ (hQ := fun _ _ _ h => absurd h.1 (by simp))
 refine hs 32 172 rfl HV.out ?_ (hQ := fun _ _ _ h => absurd h.1 (by simp))
 refine hs 33 173 rfl HV.out ?_ (hQ := fun _ _ _ h => absurd h.1 (by simp))
 refine hs 34 174 rfl HV.out ?_ (hQ := fun _ _ _ h => absurd h.1 (by simp))
 refine hs 35 175 rfl HV.out ?_ (hQ := fun _ _ _ h => absurd h.1 (by simp))
 refine hs 36 176 rfl HV.out ?_ (hQ := fun _ _ _ h => absurd h.1 (by simp))
 refine hs 37 177 rfl HV.out ?_ (hQ := fun _ _ _ h => absurd h.1 (by simp))
 refine hs 38 178 rfl HV.out ?_ (hQ := fun _ _ _ h => absurd h.1 (by simp))
 refine hs 39 179 rfl HV.out ?_ (hQ := fun _ _ _ h => absurd h.1 (by simp))
 refine hs 40 180 rfl HV.out ?_ (hQ := fun _ _ _ h => absurd h.1 (by simp))
 refine hs 41 181 rfl HV.out ?_ (hQ := fun _ _ _ h => absurd h.1 (by simp))
 refine hp 42 182 (.bool false) rfl HV.out ?_ (hQ := fun _ _ _ h => absurd h.1 (by simp))
 refine wpAnyH_done (by kernel_rfl) ?_ _
 exact P30.mk (by kernel_rfl) (HVd.out.then_non HV.out)
set_option maxRecDepth 100000 in
theorem r30_diff (wr : World) (p gs gz gw gi j n ci cz ri rz : Nat) (hji : (j : Int) < (n : Int)) (pn : Nat) (sp : Int) (i1 : wr.cell? ⟨gi, 1, none⟩ = some (.slice (some ⟨ri, 0, none⟩) n ci)) (ic : wr.cell? ⟨ri, j * 14, none⟩ = some (.int .i64 (pn : Nat))) (s1 : wr.cell? ⟨gs, 1, none⟩ = some (.int .i64 sp)) (z1 : wr.cell? ⟨gz, 1, none⟩ = some (.slice (some ⟨rz, 0, none⟩) n cz)) (hsp : ¬ (pn : Int) = sp) (hp16 : 1 ≤ pn ∧ pn ≤ 6) (wl : Nat) (wc : wr.cell? ⟨gw, pn, none⟩ = some (.int .i64 (wl : Nat))) (q : Pt) (Ai Az : Option Addr) (cmi cmz : Nat) (hri : wr.rangeAt ri (j * 14) (partC q (.slice Ai q.mem.length cmi)).toList) (hrz : wr.rangeAt rz (j * 14) (partC q (.slice Az q.mem.length cmz)).toList) (hmi : Rd wr Ai q.mem) (hmz : Rd wr Az q.mem) (hbd : q.Bd) (hwt : ∀ W, Chg Non wr W → Calls Tryz.prog 30 #[.pointer (some ⟨p, 0, none⟩), .int .i64 (pn : Nat)] W fun e w' => e = .returned (.int .i64 (wl : Nat)) ∧ Chg Non W w') (cd : Code) (hcd : subW [true, true, true, true, false, true, false, false, true, false, false, true, true, false, false, false, false, true, true, true, true, true, true, true, false, true, false, false, true, false, false, false] Tryz.f6.body = some cd) (T : Array Value) (hT : T = sl30 (fun j => T.getD j undef) p gs gz gw gi j) :
  cd.wp Tryz.prog (P30 wr ⟨T, []⟩) ⟨T, []⟩ wr := by
 refine codeW_of hcd rfl ?_
 rw [hT]
 generalize (fun j => T.getD j undef) = y
 clear hT T hcd cd
 simp only [sl30]
 have hbe : ((pn : Int) != sp) = true := by rw [bne_iff_ne]; exact hsp
 have hpm : ((pn : Int)).tmod 7 = (pn : Int) := by rw [Int.tmod_eq_emod_of_nonneg (by omega)]; omega
 have hp7 : (pn : Int) < 7 := by omega
 have hwb : ((wl : Int) != (wl : Int)) = false := by simp
 have hdr : Chg Non wr wr.drew := (Chg.refl Non wr).drew
 have HRi := Lib.hid (range_keepS hri hdr (fun e => e))
 have HRz := Lib.hid (range_keepS hrz hdr (fun e => e))
 have HRmi := Lib.hid (hmi.non hdr)
 have HRmz := Lib.hid (hmz.non hdr)
 have HPb := Lib.hid hbd
 have HP8 : Hid (q.r.length = 8) := Lib.hid hbd.r8
 have HWt := Lib.hid (fun W (hW : Chg Non wr.drew W) => hwt W (hdr.then_non hW))
 clear hri hrz hmi hmz hbd hwt hdr
 have HVd : Hid (Chg Non wr wr.drew) := Lib.hid ((Chg.refl Non wr).drew)
 refine wp_region_held_drew (S := fun W => Chg Non wr.drew W) (by kernel_rfl) (Chg.refl Non _) (fun hHeld => ?_)
 clear hHeld
 obtain ⟨V, hV⟩ : ∃ V, wr.drew = V := ⟨_, rfl⟩
 rw [hV] at HVd HRi HRz HRmi HRmz HWt ⊢
 clear hV
 have HV := Lib.hid (Chg.refl Non V)
 have i1 := HVd.out.cell_some i1 (fun e => e)
 have ic := HVd.out.cell_some ic (fun e => e)
 have s1 := HVd.out.cell_some s1 (fun e => e)
 have z1 := HVd.out.cell_some z1 (fun e => e)
 have wc := HVd.out.cell_some wc (fun e => e)
 refine hp 0 140 (.pointer (some ⟨gi, 1, none⟩)) rfl HV.out ?_ (hQ := fun _ _ _ h => absurd h.1 (by simp))
 refine hp 1 141 (.slice (some ⟨ri, 0, none⟩) n ci) rfl HV.out ?_ (he := (fun W hW => by have hc := hW.cell_some i1 (fun e => e); go_simp)) (hQ := fun _ _ _ h => absurd h.1 (by simp))
 refine hp 2 142 (.int .i64 (j : Nat)) rfl HV.out ?_ (hQ := fun _ _ _ h => absurd h.1 (by simp))
 refine hp 3 143 (.pointer (some ⟨ri, j * 14, none⟩)) rfl HV.out ?_ (hQ := fun _ _ _ h => absurd h.1 (by simp))
 refine hp 4 144 (.pointer (some ⟨ri, j * 14, none⟩)) rfl HV.out ?_ (hQ := fun _ _ _ h => absurd h.1 (by simp))
 refine hp 5 145 (.int .i64 (pn : Nat)) rfl HV.out ?_ (he := (fun W hW => by have hc := hW.cell_some ic (fun e => e); go_simp)) (hQ := fun _ _ _ h => absurd h.1 (by simp))
 refine hp 6 146 (.pointer (some ⟨gs, 1, none⟩)) rfl HV.out ?_ (hQ := fun _ _ _ h => absurd h.1 (by simp))
 refine hp 7 147 (.int .i64 sp) rfl HV.out ?_ (he := (fun W hW => by have hc := hW.cell_some s1 (fun e => e); go_simp)) (hQ := fun _ _ _ h => absurd h.1 (by simp))
 refine hp 8 148 (.bool true) rfl HV.out ?_ (hQ := fun _ _ _ h => absurd h.1 (by simp))
 refine hp 9 149 (.bool true) rfl HV.out ?_ (hQ := fun _ _ _ h => absurd h.1 (by simp))
 refine hp 10 150 (.pointer (some ⟨gi, 1, none⟩)) rfl HV.out ?_ (hQ := fun _ _ _ h => absurd h.1 (by simp))
 refine hp 11 151 (.slice (some ⟨ri, 0, none⟩) n ci) rfl HV.out ?_ (he := (fun W hW => by have hc := hW.cell_some i1 (fun e => e); go_simp)) (hQ := fun _ _ _ h => absurd h.1 (by simp))
 refine hp 12 152 (.int .i64 (j : Nat)) rfl HV.out ?_ (hQ := fun _ _ _ h => absurd h.1 (by simp))
 refine hp 13 153 (.pointer (some ⟨ri, j * 14, none⟩)) rfl HV.out ?_ (hQ := fun _ _ _ h => absurd h.1 (by simp))
 refine h_load 14 (some 154) 69 (.tmp 153) ri (j * 14) (partC q (.slice Ai q.mem.length cmi)) _ rfl (by kernel_rfl) (by kernel_rfl) (by kernel_rfl) (by kernel_rfl) (by kernel_rfl) (fun _ _ _ h => absurd h.1 (by simp)) (by kernel_rfl) (by kernel_rfl) (fun W hW => range_keepS HRi.out hW (fun e => e)) Tryz.underlying69 rfl (by rw [partC_size HP8.out]; exact info_part) HV.out ?_
 try simp only [Act.put, sA, sB, sC]
 refine hp 15 155 (.pointer (some ⟨gz, 1, none⟩)) rfl HV.out ?_ (hQ := fun _ _ _ h => absurd h.1 (by simp))
 refine hp 16 156 (.slice (some ⟨rz, 0, none⟩) n cz) rfl HV.out ?_ (he := (fun W hW => by have hc := hW.cell_some z1 (fun e => e); go_simp)) (hQ := fun _ _ _ h => absurd h.1 (by simp))
 refine hp 17 157 (.int .i64 (j : Nat)) rfl HV.out ?_ (hQ := fun _ _ _ h => absurd h.1 (by simp))
 refine hp 18 158 (.pointer (some ⟨rz, j * 14, none⟩)) rfl HV.out ?_ (hQ := fun _ _ _ h => absurd h.1 (by simp))
 refine h_load 19 (some 159) 69 (.tmp 158) rz (j * 14) (partC q (.slice Az q.mem.length cmz)) _ rfl (by kernel_rfl) (by kernel_rfl) (by kernel_rfl) (by kernel_rfl) (by kernel_rfl) (fun _ _ _ h => absurd h.1 (by simp)) (by kernel_rfl) (by kernel_rfl) (fun W hW => range_keepS HRz.out hW (fun e => e)) Tryz.underlying69 rfl (by rw [partC_size HP8.out]; exact info_part) HV.out ?_
 try simp only [Act.put, sA, sB, sC]
 refine h_one 20 (by kernel_rfl) rfl (by kernel_rfl) ?_
 intro K hK
 go_simp
 refine (Same_eq q Ai Az q.mem cmi cmz V HPb.out HRmi.out HRmz.out).mono ?_
 rintro e v1 ⟨rfl, hg1⟩
 refine hK.out _ _ (HV.out.then_non hg1) (fun _ => ?_)
 have HV := Lib.hid (HV.out.then_non hg1)
 clear hK K hg1
 try simp only [Act.put, sA, sB, sC]
 refine hp 21 161 (.bool false) rfl HV.out ?_ (hQ := fun _ _ _ h => absurd h.1 (by simp))
 refine hp 22 162 (.bool false) rfl HV.out ?_ (hQ := fun _ _ _ h => absurd h.1 (by simp))
 refine hp 23 163 (.pointer (some ⟨p, 0, none⟩)) rfl HV.out ?_ (hQ := fun _ _ _ h => absurd h.1 (by simp))
 refine hp 24 164 (.pointer (some ⟨gi, 1, none⟩)) rfl HV.out ?_ (hQ := fun _ _ _ h => absurd h.1 (by simp))
 refine hp 25 165 (.slice (some ⟨ri, 0, none⟩) n ci) rfl HV.out ?_ (he := (fun W hW => by have hc := hW.cell_some i1 (fun e => e); go_simp)) (hQ := fun _ _ _ h => absurd h.1 (by simp))
 refine hp 26 166 (.int .i64 (j : Nat)) rfl HV.out ?_ (hQ := fun _ _ _ h => absurd h.1 (by simp))
 refine hp 27 167 (.pointer (some ⟨ri, j * 14, none⟩)) rfl HV.out ?_ (hQ := fun _ _ _ h => absurd h.1 (by simp))
 refine hp 28 168 (.pointer (some ⟨ri, j * 14, none⟩)) rfl HV.out ?_ (hQ := fun _ _ _ h => absurd h.1 (by simp))
 refine hp 29 169 (.int .i64 (pn : Nat)) rfl HV.out ?_ (he := (fun W hW => by have hc := hW.cell_some ic (fun e => e); go_simp)) (hQ := fun _ _ _ h => absurd h.1 (by simp))
 refine hp 31 171 (.pointer (some ⟨gi, 1, none⟩)) rfl HV.out ?_ (hQ := fun _ _ _ h => absurd h.1 (by simp))
 refine hp 32 172 (.slice (some ⟨ri, 0, none⟩) n ci) rfl HV.out ?_ (he := (fun W hW => by have hc := hW.cell_some i1 (fun e => e); go_simp)) (hQ := fun _ _ _ h => absurd h.1 (by simp))
 refine hp 33 173 (.int .i64 (j : Nat)) rfl HV.out ?_ (hQ := fun _ _ _ h => absurd h.1 (by simp))
 refine hp 34 174 (.pointer (some ⟨ri, j * 14, none⟩)) rfl HV.out ?_ (hQ := fun _ _ _ h => absurd h.1 (by simp))
 refine hp 35 175 (.pointer (some ⟨ri, j * 14, none⟩)) rfl HV.out ?_ (hQ := fun _ _ _ h => absurd h.1 (by simp))
 refine hp 36 176 (.int .i64 (pn : Nat)) rfl HV.out ?_ (he := (fun W hW => by have hc := hW.cell_some ic (fun e => e); go_simp)) (hQ := fun _ _ _ h => absurd h.1 (by simp))
 refine hp 37 177 (.int .i64 (pn : Nat)) rfl HV.out ?_ (hQ := fun _ _ _ h => absurd h.1 (by simp))
 refine hp 38 178 (.pointer (some ⟨gw, pn, none⟩)) rfl HV.out ?_ (hQ := fun _ _ _ h => absurd h.1 (by simp))
 refine hp 39 179 (.int .i64 (wl : Nat)) rfl HV.out ?_ (he := (fun W hW => by have hc := hW.cell_some wc (fun e => e); go_simp)) (hQ := fun _ _ _ h => absurd h.1 (by simp))
 refine h_one 30 (by kernel_rfl) rfl (by kernel_rfl) ?_
 intro K hK
 go_simp
 refine (HWt.out v1 HV.out).mono ?_
 rintro e v2 ⟨rfl, hg1⟩
 refine hK.out _ _ (HV.out.then_non hg1) (fun _ => ?_)
 have HV := Lib.hid (HV.out.then_non hg1)
 clear hK K hg1
 try simp only [Act.put, sA, sB, sC]
 refine hp 40 180 (.bool false) rfl HV.out ?_ (hQ := fun _ _ _ h => absurd h.1 (by simp))
 refine hp 41 181 (.bool false) rfl HV.out ?_ (hQ := fun _ _ _ h => absurd h.1 (by simp))
 refine hp 42 182 (.bool false) rfl HV.out ?_ (hQ := fun _ _ _ h => absurd h.1 (by simp))
 refine wpAnyH_done (by kernel_rfl) ?_ _
 exact P30.mk (by kernel_rfl) (HVd.out.then_non HV.out)
set_option maxRecDepth 100000 in
theorem r36_a (wr : World) (gs gz gi gc j : Nat) (qs qd sp : Int) (c1f : wr.cell? ⟨gc, 1, none⟩ = some (.int .i64 qs)) (c2f : wr.cell? ⟨gc, 2, none⟩ = some (.int .i64 qd)) (s1 : wr.cell? ⟨gs, 1, none⟩ = some (.int .i64 sp)) (hqs : qs = sp) (cd : Code) (hcd : subW [true, true, true, true, false, true, false, false, true, false, false, true, true, false, false, false, false, true, true, true, true, true, true, true, true, false, true, false, false, true, false, false, true, false] Tryz.f6.body = some cd) (T : Array Value) (hT : T = sl36 (fun j => T.getD j undef) gs gz gi gc j) :
  cd.wp Tryz.prog (P36 wr ⟨T, []⟩) ⟨T, []⟩ wr := by
 refine codeW_of hcd rfl ?_
 rw [hT]
 generalize (fun j => T.getD j undef) = y
 clear hT T hcd cd
 simp only [sl36]
 subst hqs
 have hbe : ((qs : Int) != qs) = false := by simp
 have HVd : Hid (Chg Non wr wr.drew) := Lib.hid ((Chg.refl Non wr).drew)
 refine wp_region_held_drew (S := fun W => Chg Non wr.drew W) (by kernel_rfl) (Chg.refl Non _) (fun hHeld => ?_)
 clear hHeld
 obtain ⟨V, hV⟩ : ∃ V, wr.drew = V := ⟨_, rfl⟩
 rw [hV] at HVd ⊢
 clear hV
 have HV := Lib.hid (Chg.refl Non V)
 have c1f := HVd.out.cell_some c1f (fun e => e)
 have c2f := HVd.out.cell_some c2f (fun e => e)
 have s1 := HVd.out.cell_some s1 (fun e => e)
 refine hp 0 196 (.pointer (some ⟨gc, 1, none⟩)) rfl HV.out ?_ (hQ := fun _ _ _ h => absurd h.1 (by simp))
 refine hp 1 197 (.int .i64 qs) rfl HV.out ?_ (he := (fun W hW => by have hc := hW.cell_some c1f (fun e => e); go_simp)) (hQ := fun _ _ _ h => absurd h.1 (by simp))
 refine hp 2 198 (.pointer (some ⟨gs, 1, none⟩)) rfl HV.out ?_ (hQ := fun _ _ _ h => absurd h.1 (by simp))
 refine hp 3 199 (.int .i64 qs) rfl HV.out ?_ (he := (fun W hW => by have hc := hW.cell_some s1 (fun e => e); go_simp)) (hQ := fun _ _ _ h => absurd h.1 (by simp))
 refine hp 4 200 (.bool false) rfl HV.out ?_ (hQ := fun _ _ _ h => absurd h.1 (by simp))
 refine hp 5 201 (.bool false) rfl HV.out ?_ (hQ := fun _ _ _ h => absurd h.1 (by simp))
 refine hs 6 202 rfl HV.out ?_ (hQ := fun _ _ _ h => absurd h.1 (by simp))
 refine hs 7 203 rfl HV.out ?_ (hQ := fun _ _ _ h => absurd h.1 (by simp))
 refine hs 8 204 rfl HV.out ?_ (hQ := fun _ _ _ h => absurd h.1 (by simp))
 refine hs 9 205 rfl HV.out ?_ (hQ := fun _ _ _ h => absurd h.1 (by simp))
 refine hs 10 206 rfl HV.out ?_ (hQ := fun _ _ _ h => absurd h.1 (by simp))
 refine hp 11 207 (.bool false) rfl HV.out ?_ (hQ := fun _ _ _ h => absurd h.1 (by simp))
 refine hp 12 208 (.bool false) rfl HV.out ?_ (hQ := fun _ _ _ h => absurd h.1 (by simp))
 refine hs 13 209 rfl HV.out ?_ (hQ := fun _ _ _ h => absurd h.1 (by simp))
 refine hs 14 210 rfl HV.out ?_ (hQ := fun _ _ _ h => absurd h.1 (by simp))
 refine hs 15 211 rfl HV.out ?_ (hQ := fun _ _ _ h => absurd h.1 (by simp))
 refine hs 16 212 rfl HV.out ?_ (hQ := fun _ _ _ h => absurd h.1 (by simp))
 refine hs 17 213 rfl HV.out ?_ (hQ := fun _ _ _ h => absurd h.1 (by simp))
 refine hs 18 214 rfl HV.out ?_ (hQ := fun _ _ _ h => absurd h.1 (by simp))
 refine hs 19 215 rfl HV.out ?_ (hQ := fun _ _ _ h => absurd h.1 (by simp))
 refine hs 20 216 rfl HV.out ?_ (hQ := fun _ _ _ h => absurd h.1 (by simp))
 refine hs 21 217 rfl HV.out ?_ (hQ := fun _ _ _ h => absurd h.1 (by simp))
 refine hs 22 218 rfl HV.out ?_ (hQ := fun _ _ _ h => absurd h.1 (by simp))
 refine hs 23 219 rfl HV.out ?_ (hQ := fun _ _ _ h => absurd h.1 (by simp))
 refine hs 24 220 rfl HV.out ?_ (hQ := fun _ _ _ h => absurd h.1 (by simp))
 refine hp 25 221 (.bool false) rfl HV.out ?_ (hQ := fun _ _ _ h => absurd h.1 (by simp))
 refine wpAnyH_done (by kernel_rfl) ?_ _
 exact P36.mk (by kernel_rfl) (HVd.out.then_non HV.out)
set_option maxRecDepth 100000 in
theorem r36_b (wr : World) (gs gz gi gc j : Nat) (qs qd sp : Int) (c1f : wr.cell? ⟨gc, 1, none⟩ = some (.int .i64 qs)) (c2f : wr.cell? ⟨gc, 2, none⟩ = some (.int .i64 qd)) (s1 : wr.cell? ⟨gs, 1, none⟩ = some (.int .i64 sp)) (hqs : ¬ qs = sp) (hqd : qd = sp) (cd : Code) (hcd : subW [true, true, true, true, false, true, false, false, true, false, false, true, true, false, false, false, false, true, true, true, true, true, true, true, true, false, true, false, false, true, false, false, true, false] Tryz.f6.body = some cd) (T : Array Value) (hT : T = sl36 (fun j => T.getD j undef) gs gz gi gc j) :
  cd.wp Tryz.prog (P36 wr ⟨T, []⟩) ⟨T, []⟩ wr := by
 refine codeW_of hcd rfl ?_
 rw [hT]
 generalize (fun j => T.getD j undef) = y
 clear hT T hcd cd
 simp only [sl36]
 subst hqd
 have hbe : ((qs : Int) != qd) = true := by rw [bne_iff_ne]; exact hqs
 have hbd : ((qd : Int) != qd) = false := by simp
 have HVd : Hid (Chg Non wr wr.drew) := Lib.hid ((Chg.refl Non wr).drew)
 refine wp_region_held_drew (S := fun W => Chg Non wr.drew W) (by kernel_rfl) (Chg.refl Non _) (fun hHeld => ?_)
 clear hHeld
 obtain ⟨V, hV⟩ : ∃ V, wr.drew = V := ⟨_, rfl⟩
 rw [hV] at HVd ⊢
 clear hV
 have HV := Lib.hid (Chg.refl Non V)
 have c1f := HVd.out.cell_some c1f (fun e => e)
 have c2f := HVd.out.cell_some c2f (fun e => e)
 have s1 := HVd.out.cell_some s1 (fun e => e)
 refine hp 0 196 (.pointer (some ⟨gc, 1, none⟩)) rfl HV.out ?_ (hQ := fun _ _ _ h => absurd h.1 (by simp))
 refine hp 1 197 (.int .i64 qs) rfl HV.out ?_ (he := (fun W hW => by have hc := hW.cell_some c1f (fun e => e); go_simp)) (hQ := fun _ _ _ h => absurd h.1 (by simp))
 refine hp 2 198 (.pointer (some ⟨gs, 1, none⟩)) rfl HV.out ?_ (hQ := fun _ _ _ h => absurd h.1 (by simp))
 refine hp 3 199 (.int .i64 qd) rfl HV.out ?_ (he := (fun W hW => by have hc := hW.cell_some s1 (fun e => e); go_simp)) (hQ := fun _ _ _ h => absurd h.1 (by simp))
 refine hp 4 200 (.bool true) rfl HV.out ?_ (hQ := fun _ _ _ h => absurd h.1 (by simp))
 refine hp 5 201 (.bool true) rfl HV.out ?_ (hQ := fun _ _ _ h => absurd h.1 (by simp))
 refine hp 6 202 (.pointer (some ⟨gc, 2, none⟩)) rfl HV.out ?_ (hQ := fun _ _ _ h => absurd h.1 (by simp))
 refine hp 7 203 (.int .i64 qd) rfl HV.out ?_ (he := (fun W hW => by have hc := hW.cell_some c2f (fun e => e); go_simp)) (hQ := fun _ _ _ h => absurd h.1 (by simp))
 refine hp 8 204 (.pointer (some ⟨gs, 1, none⟩)) rfl HV.out ?_ (hQ := fun _ _ _ h => absurd h.1 (by simp))
 refine hp 9 205 (.int .i64 qd) rfl HV.out ?_ (he := (fun W hW => by have hc := hW.cell_some s1 (fun e => e); go_simp)) (hQ := fun _ _ _ h => absurd h.1 (by simp))
 refine hp 10 206 (.bool false) rfl HV.out ?_ (hQ := fun _ _ _ h => absurd h.1 (by simp))
 refine hp 11 207 (.bool false) rfl HV.out ?_ (hQ := fun _ _ _ h => absurd h.1 (by simp))
 refine hp 12 208 (.bool false) rfl HV.out ?_ (hQ := fun _ _ _ h => absurd h.1 (by simp))
 refine hs 13 209 rfl HV.out ?_ (hQ := fun _ _ _ h => absurd h.1 (by simp))
 refine hs 14 210 rfl HV.out ?_ (hQ := fun _ _ _ h => absurd h.1 (by simp))
 refine hs 15 211 rfl HV.out ?_ (hQ := fun _ _ _ h => absurd h.1 (by simp))
 refine hs 16 212 rfl HV.out ?_ (hQ := fun _ _ _ h => absurd h.1 (by simp))
 refine hs 17 213 rfl HV.out ?_ (hQ := fun _ _ _ h => absurd h.1 (by simp))
 refine hs 18 214 rfl HV.out ?_ (hQ := fun _ _ _ h => absurd h.1 (by simp))
 refine hs 19 215 rfl HV.out ?_ (hQ := fun _ _ _ h => absurd h.1 (by simp))
 refine hs 20 216 rfl HV.out ?_ (hQ := fun _ _ _ h => absurd h.1 (by simp))
 refine hs 21 217 rfl HV.out ?_ (hQ := fun _ _ _ h => absurd h.1 (by simp))
 refine hs 22 218 rfl HV.out ?_ (hQ := fun _ _ _ h => absurd h.1 (by simp))
 refine hs 23 219 rfl HV.out ?_ (hQ := fun _ _ _ h => absurd h.1 (by simp))
 refine hs 24 220 rfl HV.out ?_ (hQ := fun _ _ _ h => absurd h.1 (by simp))
 refine hp 25 221 (.bool false) rfl HV.out ?_ (hQ := fun _ _ _ h => absurd h.1 (by simp))
 refine wpAnyH_done (by kernel_rfl) ?_ _
 exact P36.mk (by kernel_rfl) (HVd.out.then_non HV.out)
set_option maxRecDepth 100000 in
theorem r36_c (wr : World) (gs gz gi gc j : Nat) (qs qd sp : Int) (c1f : wr.cell? ⟨gc, 1, none⟩ = some (.int .i64 qs)) (c2f : wr.cell? ⟨gc, 2, none⟩ = some (.int .i64 qd)) (s1 : wr.cell? ⟨gs, 1, none⟩ = some (.int .i64 sp)) (hqs : ¬ qs = sp) (hqd : ¬ qd = sp) (m di dz ti tz : Nat) (hji : (j : Int) < (m : Int)) (i2 : wr.cell? ⟨gi, 2, none⟩ = some (.slice (some ⟨ti, 0, none⟩) m di)) (z2 : wr.cell? ⟨gz, 2, none⟩ = some (.slice (some ⟨tz, 0, none⟩) m dz)) (vi vz : List Value) (hli : vi.length = 6) (hlz : vz.length = 6) (hri : wr.rangeAt ti (j * 6) vi) (hrz : wr.rangeAt tz (j * 6) vz) (hsm : ∀ W, Chg Non wr W → Calls Tryz.prog 37 #[.agg vi.toArray, .agg vz.toArray] W fun e w' => e = .returned (.bool true) ∧ Chg Non W w') (cd : Code) (hcd : subW [true, true, true, true, false, true, false, false, true, false, false, true, true, false, false, false, false, true, true, true, true, true, true, true, true, false, true, false, false, true, false, false, true, false] Tryz.f6.body = some cd) (T : Array Value) (hT : T = sl36 (fun j => T.getD j undef) gs gz gi gc j) :
  cd.wp Tryz.prog (P36 wr ⟨T, []⟩) ⟨T, []⟩ wr := by
 refine codeW_of hcd rfl ?_
 rw [hT]
 generalize (fun j => T.getD j undef) = y
 clear hT T hcd cd
 simp only [sl36]
 have hbe : ((qs : Int) != sp) = true := by rw [bne_iff_ne]; exact hqs
 have hbd : ((qd : Int) != sp) = true := by rw [bne_iff_ne]; exact hqd
 have hdr : Chg Non wr wr.drew := (Chg.refl Non wr).drew
 have HQi := Lib.hid (range_keepS hri hdr (fun e => e))
 have HQz := Lib.hid (range_keepS hrz hdr (fun e => e))
 have HQil := Lib.hid hli
 have HQzl := Lib.hid hlz
 have HSm := Lib.hid (fun W (hW : Chg Non wr.drew W) => hsm W (hdr.then_non hW))
 clear hri hrz hli hlz hsm hdr
 have HVd : Hid (Chg Non wr wr.drew) := Lib.hid ((Chg.refl Non wr).drew)
 refine wp_region_held_drew (S := fun W => Chg Non wr.drew W) (by kernel_rfl) (Chg.refl Non _) (fun hHeld => ?_)
 clear hHeld
 obtain ⟨V, hV⟩ : ∃ V, wr.drew = V := ⟨_, rfl⟩
 rw [hV] at HVd HQi HQz HSm ⊢
 clear hV
 have HV := Lib.hid (Chg.refl Non V)
 have c1f := HVd.out.cell_some c1f (fun e => e)
 have c2f := HVd.out.cell_some c2f (fun e => e)
 have s1 := HVd.out.cell_some s1 (fun e => e)
 have i2 := HVd.out.cell_some i2 (fun e => e)
 have z2 := HVd.out.cell_some z2 (fun e => e)
 refine hp 0 196 (.pointer (some ⟨gc, 1, none⟩)) rfl HV.out ?_ (hQ := fun _ _ _ h => absurd h.1 (by simp))
 refine hp 1 197 (.int .i64 qs) rfl HV.out ?_ (he := (fun W hW => by have hc := hW.cell_some c1f (fun e => e); go_simp)) (hQ := fun _ _ _ h => absurd h.1 (by simp))
 refine hp 2 198 (.pointer (some ⟨gs, 1, none⟩)) rfl HV.out ?_ (hQ := fun _ _ _ h => absurd h.1 (by simp))
 refine hp 3 199 (.int .i64 sp) rfl HV.out ?_ (he := (fun W hW => by have hc := hW.cell_some s1 (fun e => e); go_simp)) (hQ := fun _ _ _ h => absurd h.1 (by simp))
 refine hp 4 200 (.bool true) rfl HV.out ?_ (hQ := fun _ _ _ h => absurd h.1 (by simp))
 refine hp 5 201 (.bool true) rfl HV.out ?_ (hQ := fun _ _ _ h => absurd h.1 (by simp))
 refine hp 6 202 (.pointer (some ⟨gc, 2, none⟩)) rfl HV.out ?_ (hQ := fun _ _ _ h => absurd h.1 (by simp))
 refine hp 7 203 (.int .i64 qd) rfl HV.out ?_ (he := (fun W hW => by have hc := hW.cell_some c2f (fun e => e); go_simp)) (hQ := fun _ _ _ h => absurd h.1 (by simp))
 refine hp 8 204 (.pointer (some ⟨gs, 1, none⟩)) rfl HV.out ?_ (hQ := fun _ _ _ h => absurd h.1 (by simp))
 refine hp 9 205 (.int .i64 sp) rfl HV.out ?_ (he := (fun W hW => by have hc := hW.cell_some s1 (fun e => e); go_simp)) (hQ := fun _ _ _ h => absurd h.1 (by simp))
 refine hp 10 206 (.bool true) rfl HV.out ?_ (hQ := fun _ _ _ h => absurd h.1 (by simp))
 refine hp 11 207 (.bool true) rfl HV.out ?_ (hQ := fun _ _ _ h => absurd h.1 (by simp))
 refine hp 12 208 (.bool true) rfl HV.out ?_ (hQ := fun _ _ _ h => absurd h.1 (by simp))
 refine hp 13 209 (.pointer (some ⟨gi, 2, none⟩)) rfl HV.out ?_ (hQ := fun _ _ _ h => absurd h.1 (by simp))
 refine hp 14 210 (.slice (some ⟨ti, 0, none⟩) m di) rfl HV.out ?_ (he := (fun W hW => by have hc := hW.cell_some i2 (fun e => e); go_simp)) (hQ := fun _ _ _ h => absurd h.1 (by simp))
 refine hp 15 211 (.int .i64 (j : Nat)) rfl HV.out ?_ (hQ := fun _ _ _ h => absurd h.1 (by simp))
 refine hp 16 212 (.pointer (some ⟨ti, j * 6, none⟩)) rfl HV.out ?_ (hQ := fun _ _ _ h => absurd h.1 (by simp))
 refine h_load 17 (some 213) 95 (.tmp 212) ti (j * 6) vi.toArray _ rfl (by kernel_rfl) (by kernel_rfl) (by kernel_rfl) (by kernel_rfl) (by kernel_rfl) (fun _ _ _ h => absurd h.1 (by simp)) (by kernel_rfl) (by kernel_rfl) (fun W hW => range_keepS HQi.out hW (fun e => e)) Tryz.underlying95 rfl (by rw [List.size_toArray, HQil.out]; kernel_rfl) HV.out ?_
 try simp only [Act.put, sA, sB, sC]
 refine hp 18 214 (.pointer (some ⟨gz, 2, none⟩)) rfl HV.out ?_ (hQ := fun _ _ _ h => absurd h.1 (by simp))
 refine hp 19 215 (.slice (some ⟨tz, 0, none⟩) m dz) rfl HV.out ?_ (he := (fun W hW => by have hc := hW.cell_some z2 (fun e => e); go_simp)) (hQ := fun _ _ _ h => absurd h.1 (by simp))
 refine hp 20 216 (.int .i64 (j : Nat)) rfl HV.out ?_ (hQ := fun _ _ _ h => absurd h.1 (by simp))
 refine hp 21 217 (.pointer (some ⟨tz, j * 6, none⟩)) rfl HV.out ?_ (hQ := fun _ _ _ h => absurd h.1 (by simp))
 refine h_load 22 (some 218) 95 (.tmp 217) tz (j * 6) vz.toArray _ rfl (by kernel_rfl) (by kernel_rfl) (by kernel_rfl) (by kernel_rfl) (by kernel_rfl) (fun _ _ _ h => absurd h.1 (by simp)) (by kernel_rfl) (by kernel_rfl) (fun W hW => range_keepS HQz.out hW (fun e => e)) Tryz.underlying95 rfl (by rw [List.size_toArray, HQzl.out]; kernel_rfl) HV.out ?_
 try simp only [Act.put, sA, sB, sC]
 refine h_one 23 (by kernel_rfl) rfl (by kernel_rfl) ?_
 intro K hK
 go_simp
 refine (HSm.out V (Chg.refl Non V)).mono ?_
 rintro e v1 ⟨rfl, hg1⟩
 refine hK.out _ _ (HV.out.then_non hg1) (fun _ => ?_)
 have HV := Lib.hid (HV.out.then_non hg1)
 clear hK K hg1
 try simp only [Act.put, sA, sB, sC]
 refine hp 24 220 (.bool false) rfl HV.out ?_ (hQ := fun _ _ _ h => absurd h.1 (by simp))
 refine hp 25 221 (.bool false) rfl HV.out ?_ (hQ := fun _ _ _ h => absurd h.1 (by simp))
 refine wpAnyH_done (by kernel_rfl) ?_ _
 exact P36.mk (by kernel_rfl) (HVd.out.then_non HV.out)
end
section
open Go.RowKit
set_option maxRecDepth 100000 in
theorem great11_ok (I : Nat → Prop) (w : World) (c : Cfg) (A1 A2 A3 : Option Addr) (c1 c2 c3 : Nat) (h : CfgR I w c A1 A2 A3 c1 c2 c3) :
  Calls Tryz.prog 8 #[.agg #[.slice A1 c.ws.length c1, .slice A2 c.ps.length c2, .slice A3 c.cs.length c3]] w fun e w' => ∃ r : Bool, e = .returned (.bool r) ∧ (r = false → c.ws.length ≤ 40 ∧ c.ps.length ≤ 20 ∧ c.cs.length ≤ 40) ∧ Chg Non w w' := by
 have HC := Lib.hid h
 clear h
 by_cases h1 : 40 < c.ws.length
 ·have d1 : decide ((40 : Int) < (c.ws.length : Int)) = true := by rw [decide_eq_true_eq]; omega
  go_enter Tryz.func8, Tryz.ntmps8
  go_wp2_with fail
  all_goals go_ret
  all_goals exact ⟨true, rfl, (fun e => absurd e (by simp)), (Chg.refl _ _).alloc _⟩
 have d1 : decide ((40 : Int) < (c.ws.length : Int)) = false := by rw [decide_eq_false_iff_not]; omega
 by_cases h2 : 20 < c.ps.length
 ·have d2 : decide ((20 : Int) < (c.ps.length : Int)) = true := by rw [decide_eq_true_eq]; omega
  go_enter Tryz.func8, Tryz.ntmps8
  go_wp2_with fail
  all_goals go_ret
  all_goals exact ⟨true, rfl, (fun e => absurd e (by simp)), (Chg.refl _ _).alloc _⟩
 have d2 : decide ((20 : Int) < (c.ps.length : Int)) = false := by rw [decide_eq_false_iff_not]; omega
 by_cases h3 : 40 < c.cs.length
 ·have d3 : decide ((40 : Int) < (c.cs.length : Int)) = true := by rw [decide_eq_true_eq]; omega
  go_enter Tryz.func8, Tryz.ntmps8
  go_wp2_with fail
  all_goals go_ret
  all_goals exact ⟨true, rfl, (fun e => absurd e (by simp)), (Chg.refl _ _).alloc _⟩
 have d3 : decide ((40 : Int) < (c.cs.length : Int)) = false := by rw [decide_eq_false_iff_not]; omega
 have hL : c.ws.length ≤ 40 ∧ c.ps.length ≤ 20 ∧ c.cs.length ≤ 40 := ⟨by omega, by omega, by omega⟩
 have h20 : c.ps.length ≤ 20 := hL.2.1
 have HL := Lib.hid hL
 clear h1 h2 h3 hL
 go_enter Tryz.func8, Tryz.ntmps8
 go_wp2_with fail
 have hblk := blk_new w (.cells #[.slice A1 c.ws.length c1, .slice A2 c.ps.length c2, .slice A3 c.cs.length c3] 26)
 obtain ⟨W1, hW1⟩ : ∃ W1, w.alloc (.cells #[.slice A1 c.ws.length c1, .slice A2 c.ps.length c2, .slice A3 c.cs.length c3] 26) = W1 := ⟨_, rfl⟩
 have HG1 : Hid (Chg Non w W1) := Lib.hid (by rw [← hW1]; exact (Chg.refl Non w).alloc _)
 have hlt0 : w.heap.size < W1.heap.size := by rw [← hW1]; simp
 rw [hW1] at hblk ⊢
 have HB := Lib.hid hblk
 clear hblk hW1 d1 d2 d3
 go_loopw [4, 3] (fun iv sv wr => ∃ (k : Nat) (x : Int), k ≤ c.ps.length ∧ iv = .int .i64 k ∧ sv = .int .i64 x ∧ Hid (Chg Non W1 wr)) (fun iv _ _ => c.ps.length - (intOf iv).toNat)
 case atStart => exact ⟨0, 0, Nat.zero_le _, rfl, rfl, Lib.hid (Chg.refl _ _)⟩
 case round =>
  obtain ⟨k, x, hk, rfl, rfl, HG⟩ := hrel
  have c1r := blk_cell (blk_keep HB.out HG.out (fun e => e)) 1 (v := .slice A2 c.ps.length c2) rfl
  have hltr : w.heap.size < wr.heap.size := Nat.lt_of_lt_of_le hlt0 HG.out.size
  by_cases hlt : k < c.ps.length
  ·have hltd : decide ((k : Int) < (c.ps.length : Int)) = true := by simpa using hlt
   obtain ⟨a, ha⟩ : ∃ a, c.ps[k]? = some a := ⟨_, List.getElem?_eq_getElem hlt⟩
   obtain ⟨b, o, m, rfl, k0, k1, k2, k3, k4, hbv, _, _, _, hil, hbl⟩ := pn_at HC.out.ps (HG1.out.then_non HG.out) ha
   obtain ⟨Am, cm, rfl, _⟩ := hbv
   clear k0 k1 k2 k3 ha
   go_wp2_with fail
   exact ⟨⟨k + 1, _, by omega, by simp, rfl, HG⟩, by simp [intOf]; omega⟩
  ·have hltd : decide ((k : Int) < (c.ps.length : Int)) = false := by simpa using hlt
   go_wp2_with fail
   go_ret
   exact ⟨_, rfl, fun _ => HL.out, HG1.out.then_non HG.out⟩
end
section
open Go.RowKit
structure Ak where
 what : Nat
 part : Int
 pl : Int
 by_ : List UInt8
def actV (I : Nat → Prop) : World → Ak → List Value → Prop := fun w a vs => ∃ m, vs = [.int .u8 a.what, .int .i64 a.part, .int .i64 a.pl, m] ∧ BytesV I w a.by_ m ∧ a.what < 256 ∧ I64 a.part ∧ I64 a.pl
theorem actV_non {I : Nat → Prop} : ∀ W W' a vs, Chg Non W W' → actV I W a vs → actV I W' a vs := fun _ _ _ _ hg ⟨m, h1, h2, h3⟩ => ⟨m, h1, h2.keep hg (fun _ _ e => e), h3⟩
theorem act_at {I : Nat → Prop} {w w' : World} {A : Option Addr} {l : List Ak} (hr : RdL (actV I) I 4 w A l) (hg : Chg Non w w') {k : Nat} {a : Ak} (hk : l[k]? = some a) :
  ∃ b o m, A = some ⟨b, o, none⟩ ∧ w'.cell? ⟨b, o + k * 4, none⟩ = some (.int .u8 a.what) ∧ w'.cell? ⟨b, o + k * 4 + 1, none⟩ = some (.int .i64 a.part) ∧ w'.cell? ⟨b, o + k * 4 + 2, none⟩ = some (.int .i64 a.pl) ∧ w'.cell? ⟨b, o + k * 4 + 3, none⟩ = some m ∧
   BytesV I w' a.by_ m ∧ a.what < 256 ∧ I64 a.part ∧ I64 a.pl ∧ b < w'.heap.size ∧ I b := by
 obtain ⟨b, o, vs, rfl, hI, hl, hc, m, rfl, hb, h1, h2, h3⟩ := hr k a hk
 have h0 := hg.cell_some (hc 0 (.int .u8 a.what) rfl) (fun e => e)
 exact ⟨b, o, m, rfl, h0, hg.cell_some (hc 1 _ rfl) (fun e => e), hg.cell_some (hc 2 _ rfl) (fun e => e), hg.cell_some (hc 3 _ rfl) (fun e => e), hb.keep hg (fun _ _ e => e), h1, h2, h3, lt_of_cell h0, hI⟩
set_option maxRecDepth 100000 in
theorem great23_ok (I : Nat → Prop) (w : World) (B : Option Addr) (l : List Ak) (c : Nat) (hr : RdL (actV I) I 4 w B l) (hc : l.length ≤ c) (hm : c ≤ maxLen) :
  Calls Tryz.prog 10 #[.slice B l.length c] w fun e w' => ∃ r : Bool, e = .returned (.bool r) ∧ (r = false → l.length ≤ 60 ∧ ∀ x ∈ l, x.by_.length ≤ 600) ∧ Chg Non w w' := by
 have HR := Lib.hid hr
 clear hr
 by_cases h1 : 60 < l.length
 ·have d1 : decide ((60 : Int) < (l.length : Int)) = true := by rw [decide_eq_true_eq]; omega
  go_enter Tryz.func10, Tryz.ntmps10
  go_wp2_with fail
  all_goals go_ret
  all_goals exact ⟨true, rfl, (fun e => absurd e (by simp)), Chg.refl _ _⟩
 have d1 : decide ((60 : Int) < (l.length : Int)) = false := by rw [decide_eq_false_iff_not]; omega
 have hL : l.length ≤ 60 := by omega
 clear h1
 go_enter Tryz.func10, Tryz.ntmps10
 go_wp2_with fail
 clear d1
 go_loopw [4, 3] (fun iv sv wr => ∃ (k : Nat) (x : Int), k ≤ l.length ∧ iv = .int .i64 k ∧ sv = .int .i64 x ∧ Hid (∀ i a, i < k → l[i]? = some a → a.by_.length ≤ 600) ∧ Hid (Chg Non w wr)) (fun iv _ _ => l.length - (intOf iv).toNat)
 case atStart => exact ⟨0, 0, Nat.zero_le _, rfl, rfl, Lib.hid (fun i b h => by omega), Lib.hid (Chg.refl _ _)⟩
 case round =>
  obtain ⟨k, x, hk, rfl, rfl, HN, HG⟩ := hrel
  by_cases hlt : k < l.length
  ·have hltd : decide ((k : Int) < (l.length : Int)) = true := by simpa using hlt
   obtain ⟨a, ha⟩ : ∃ a, l[k]? = some a := ⟨_, List.getElem?_eq_getElem hlt⟩
   obtain ⟨b, o, m, rfl, k0, k1, k2, k3, hbv, hw, _, hp, hbl, _⟩ := act_at HR.out HG.out ha
   obtain ⟨Am, cm, rfl, _⟩ := hbv
   have HA := Lib.hid ha
   clear k1 ha
   by_cases h6 : 600 < a.by_.length
   ·have d6 : decide ((600 : Int) < (a.by_.length : Int)) = true := by rw [decide_eq_true_eq]; omega
    go_wp2_with fail
    all_goals go_ret
    all_goals exact ⟨true, rfl, (fun e => absurd e (by simp)), HG.out⟩
   have d6 : decide ((600 : Int) < (a.by_.length : Int)) = false := by rw [decide_eq_false_iff_not]; omega
   have HN2 : Hid (∀ i b, i < k + 1 → l[i]? = some b → b.by_.length ≤ 600) := Lib.hid (fun i b hi hb => by
     by_cases e : i = k
     · subst e
       rw [HA.out] at hb
       injection hb with hb
       subst hb
       omega
     · exact HN.out i b (by omega) hb)
   clear h6
   go_wp2_with fail
   all_goals exact ⟨⟨k + 1, _, by omega, by simp, rfl, HN2, HG⟩, by simp [intOf]; omega⟩
  ·have hltd : decide ((k : Int) < (l.length : Int)) = false := by simpa using hlt
   go_wp2_with fail
   go_ret
   exact ⟨_, rfl, fun _ => ⟨hL, fun x hx => by
     obtain ⟨i, hi, rfl⟩ := List.mem_iff_getElem.1 hx
     exact HN.out i _ (by omega) (List.getElem?_eq_getElem hi)⟩, HG.out⟩
end
section
open Go.RowKit
def queO (id : Int) (p q : Qu) : Prop := p.ch = q.ch ∧ (p.ch.src ≠ id → p.ch.dst ≠ id → p = q)
theorem queO.refl {id : Int} (a : Qu) : queO id a a := ⟨rfl, fun _ _ => rfl⟩
theorem queO.symm {id : Int} (a b : Qu) (h : queO id a b) : queO id b a := ⟨h.1.symm, fun e1 e2 => (h.2 (by rw [h.1]; exact e1) (by rw [h.1]; exact e2)).symm⟩
theorem do_own (n : Int) (p : Pt) (w : Wld) : SimL (queO p.id) w.qs (doV n p w).2.1.qs := by
 have hr : SimL (queO p.id) w.qs w.qs := .refl queO.refl _
 unfold doV
 split
 ·exact hr
 split
 ·split
  ·cases hg : qGet (idxOf (qidP (p.g 0)) w.qs) w.qs with
   | none => rw [sendV_none hg]; exact hr
   | some q =>
    rw [sendV_some hg]
    split
    ·rename_i hc
     refine (hr.symm queO.symm).setL (fun b hbq => ?_) |>.symm queO.symm
     rw [(qGet_mem hg).2] at hbq
     injection hbq with hbq
     subst hbq
     exact ⟨rfl, fun e _ => absurd hc.2.1 e⟩
    ·exact hr
  ·exact hr
 split
 ·split
  ·cases hg : qGet (idxOf (qidP (p.g 0)) w.qs) w.qs with
   | none => rw [recvV_none hg]; exact hr
   | some q =>
    by_cases hc : there p.mem (p.g 1) (p.g 2) = true ∧ q.ch.dst = p.id
    ·cases hm : q.msgs with
     | nil => rw [recvV_empty hg hc hm]; exact hr
     | cons m rest =>
      rw [recvV_take hg hc hm]
      refine (hr.symm queO.symm).setL (fun b hbq => ?_) |>.symm queO.symm
      rw [(qGet_mem hg).2] at hbq
      injection hbq with hbq
      subst hbq
      exact ⟨rfl, fun _ e => absurd hc.2 e⟩
    ·rw [recvV_bad hg hc]; exact hr
  ·exact hr
 split
 ·exact hr
 split
 ·unfold inputV
  split <;> exact hr
 split
 ·exact hr
 split <;> exact hr
structure OwnT (id : Int) (a b : Kn) : Prop where
 ps : SimL (partR (· ≠ id)) a.s.parts b.s.parts
 qs : SimL (queO id) a.s.queues b.s.queues
 inp : ∀ x, x ≠ id → a.waits x = b.waits x
theorem OwnT.refl (id : Int) (a : Kn) : OwnT id a a := ⟨.refl partR.refl _, .refl queO.refl _, fun _ _ => rfl⟩
theorem does_own {k : Kn} (i : Nat) {p : Pt} (hi : k.s.parts[i]? = some p) : OwnT p.id k (doesV i k) := by
 have hset : ∀ q : Pt, q.id = p.id → SimL (partR (· ≠ p.id)) k.s.parts (k.s.parts.set i q) := fun q hq =>
  ((SimL.refl partR.refl k.s.parts).setL (fun b hbp => by
    rw [hi] at hbp
    injection hbp with hbp
    subst hbp
    exact ⟨hq, fun e => absurd hq e⟩)).symm partR.symm
 unfold doesV
 rw [hi]
 simp only
 split
 ·split
  ·exact ⟨hset _ (step_id p).1, .refl queO.refl _, fun _ _ => rfl⟩
  ·refine ⟨hset _ ((do_id _ _ _).1.trans (step_id p).1), ?_, fun id e => ?_⟩
   ·have := do_own (stepV p).2.1 (stepV p).1 (k.wld (stepV p).1)
    rw [(step_id p).1] at this
    exact this
   ·show _ = (((updI k.inp (stepV p).1.id _).find? (fun p => p.1 == id)).map (·.2)).getD []
    rw [waits_upd, if_neg (by rw [(step_id p).1]; rintro rfl; exact e rfl)]
    rfl
 ·exact OwnT.refl _ _
theorem tick_own (k : Kn) : OwnT (slotV k.c.ws k.tick).2 k k.ticked := by
 obtain ⟨h1, h2, h3, h4, h5⟩ := fresh_s k
 have hf : OwnT (slotV k.c.ws k.tick).2 k k.turn := by
  unfold Kn.turn
  split
  ·refine ⟨by rw [h1]; exact .refl partR.refl _, by rw [h1]; exact .refl queO.refl _, fun x _ => ?_⟩
   unfold Kn.waits
   rw [h4]
  ·rename_i hi
   obtain ⟨p, hp, hid⟩ := idx_at hi
   have := does_own (k := k.fresh) _ (by rw [h1]; exact hp)
   rw [hid] at this
   refine ⟨by have := this.ps; rw [h1] at this; exact this, by have := this.qs; rw [h1] at this; exact this, fun x e => ?_⟩
   have := this.inp x e
   unfold Kn.waits at this ⊢
   rw [h4] at this
   exact this
 unfold Kn.ticked Kn.next
 split
 ·exact ⟨hf.ps, hf.qs, hf.inp⟩
 ·exact ⟨hf.ps, hf.qs, hf.inp⟩
end
section
open Go.RowKit
theorem load_cases (k : Kn) (id at_ : Int) (b : List UInt8) : k.load id at_ b = k ∨ ∃ (i : Nat) (p : Pt), k.s.parts[i]? = some p ∧ p.id = id ∧ idxOf (idP id) k.s.parts = i ∧ memE p.mem at_ b.length = 0 ∧ k.load id at_ b = { k with s := { k.s with parts := k.s.parts.set i { p with mem := put p.mem at_.toNat b } } } := by
 by_cases hi : idxOf (idP id) k.s.parts < 0
 ·exact .inl (load_none hi).2
 ·obtain ⟨p, hp, hid⟩ := idx_at hi
  have hx : idxOf (idP id) k.s.parts = ((idxOf (idP id) k.s.parts).toNat : Int) := by omega
  have h2 := (load_some (at_ := at_) (b := b) hx hp).2
  by_cases hm : memE p.mem at_ b.length = 0
  ·rw [if_pos hm] at h2
   exact .inr ⟨_, p, hp, hid, hx, hm, h2⟩
  ·rw [if_neg hm] at h2
   exact .inl h2
theorem load_same (k : Kn) (id at_ : Int) (b : List UInt8) : (k.load id at_ b).c = k.c ∧ (k.load id at_ b).ver = k.ver ∧ (k.load id at_ b).tick = k.tick ∧ (k.load id at_ b).inp = k.inp ∧ (k.load id at_ b).yl = k.yl ∧ (k.load id at_ b).s.frames = k.s.frames ∧ (k.load id at_ b).s.queues = k.s.queues := by
 rcases load_cases k id at_ b with h | ⟨i, p, _, _, _, _, h⟩ <;> rw [h] <;> exact ⟨rfl, rfl, rfl, rfl, rfl, rfl, rfl⟩
theorem input_same (k : Kn) (id : Int) (b : List UInt8) : (k.input id b).c = k.c ∧ (k.input id b).ver = k.ver ∧ (k.input id b).tick = k.tick ∧ (k.input id b).s = k.s ∧ (k.input id b).yl = k.yl := by
 unfold Kn.input
 split <;> exact ⟨rfl, rfl, rfl, rfl, rfl⟩
theorem Kn.Good.load {k : Kn} (h : k.Good) (id at_ : Int) (b : List UInt8) : (k.load id at_ b).Good := by
 rcases load_cases k id at_ b with e | ⟨i, p, hp, hid, _, hm, e⟩
 ·rw [e]; exact h
 ·rw [e]
  have hpm := h.pm p (List.mem_of_getElem? hp)
  refine ⟨h.sch, h.t0, h.t1, h.f0, h.f1, by simpa using h.pl, h.ql, fun x hx => ?_, h.qm, h.il⟩
  rcases List.mem_or_eq_of_mem_set hx with hx | hx
  ·exact h.pm x hx
  ·rw [hx]
   refine partOk_of hpm rfl rfl ?_ (by simp [partOk] at hpm; show p.st ≤ 4; omega)
   show (put p.mem at_.toNat b).length = p.mem.length
   refine put_len ?_
   unfold memE at hm
   split at hm
   ·exact absurd hm (by decide)
   ·split at hm
    ·exact absurd hm (by decide)
    ·omega
theorem Kn.Good.input {k : Kn} (h : k.Good) (id : Int) (b : List UInt8) : (k.input id b).Good := by
 unfold Kn.input
 split
 ·rename_i he
  refine ⟨h.sch, h.t0, h.t1, h.f0, h.f1, h.pl, h.ql, h.pm, h.qm, fun x hx => ?_⟩
  rcases mem_updI hx with hx | hx
  ·exact h.il x hx
  ·rw [hx]
   unfold Kn.inputE at he
   split at he
   ·exact absurd he (by decide)
   ·split at he
    ·exact absurd he (by decide)
    ·rw [List.length_append]; omega
 ·exact h
section
variable {L : Int → Prop} {a b : Kn}
end
end
section
open Go.RowKit
theorem KerB.more {N N' : Nat → Prop} {w : World} {k : Kn} {a : KAt} (h : KerB N w k a) (h1 : ∀ b, N' b → b < w.heap.size → N b) (h2 : ∀ b, N b → N' b) : KerB N' w k a := by
 have hI : ∀ b, ¬ N b ∧ b < w.heap.size → ¬ N' b := fun b e e2 => e.1 (h1 b e2 e.2)
 obtain ⟨⟨vq, a1, a2⟩, a3, a4, a5, a6, a7, a8, ⟨m, a9, a10⟩, a11⟩ := h
 exact ⟨⟨vq, a1, (a2.bound (by omega) (fun _ _ _ h => h.bound)).mono hI (fun _ _ _ h => h.mono hI)⟩, fun b e => h2 b (a3 b e), a4, (a5.bound (by omega) (fun _ _ _ h => h)).mono hI (fun _ _ _ h => h), (a6.bound (by omega) (fun _ _ _ h => h.bound)).mono hI (fun _ _ _ h => h.mono hI), (a7.bound (by omega) (fun _ _ _ h => h)).mono hI (fun _ _ _ h => h), a8.mono (fun _ _ h => h.bound.mono hI), ⟨m, a9, a10.1, fun i x y hx hy => ⟨(a10.2 i x y hx hy).1, (a10.2 i x y hx hy).2.1.bound.mono hI, (a10.2 i x y hx hy).2.2⟩⟩, a11⟩
section
variable {w W W' : World} {ka kb k' : Kn} {a b : KAt} {Na Nb : Nat → Prop} {M : Nat}
end
section
variable {c : Cfg} {who : Int} {ka kb : Kn}
end
end
end Go.Proofs.YtmnaleaghfbclaaGreatDoor
