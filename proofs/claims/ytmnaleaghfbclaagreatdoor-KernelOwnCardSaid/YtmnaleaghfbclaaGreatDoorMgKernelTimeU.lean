/- KernelTime, part 21 of 28: contracts of the functions that it reaches, and the laws that they need, merged and shortened (from my texts XCal, XChan, XKerP, XCalA, XCalB, XCalC). -/
import Derived.Test.YtmnaleaghfbclaaGreatDoorMgKernelTimeA
import Derived.Test.YtmnaleaghfbclaaGreatDoorMgKernelTimeO
import Derived.Test.YtmnaleaghfbclaaGreatDoorMgKernelTimeS
import Derived.Test.YtmnaleaghfbclaaGreatDoorMgKernelTimeT
namespace Go.Proofs.YtmnaleaghfbclaaGreatDoor
set_option linter.unusedVariables false
set_option linter.unusedSimpArgs false
set_option maxHeartbeats 8000000
section
open Go.RowKit
def callerL (p : Pt) (m : Value) (wl : Wld) (vq vi : Value) (y : Bool) : List Value := partL p m ++ [.int .i64 wl.frames, .int .i64 wl.tick, .int .i64 wl.ver, vq, vi, .bool y]
def callerC (p : Pt) (m : Value) (wl : Wld) (vq vi : Value) (y : Bool) : Array Value := (callerL p m wl vq vi y).toArray
def calK (B g : Nat) (vq : Value) : Nat → Prop := fun b => B ≤ b ∧ b ≠ g ∧ vq.ownBlock ≠ some b
structure CalX (B : Nat) (W : World) (g : Nat) (p : Pt) (wl : Wld) (y : Bool) (m vq vi : Value) : Prop where
 blk : W.heap[g]? = some (.cells (callerC p m wl vq vi y) 329 (0, 0))
 bd : p.Bd
 mem : BytesV (calK B g vq) W p.mem m
 qs : OwnL (quV (calK B g vq)) B 95 6 W vq wl.qs
 inp : BytesV (calK B g vq) W wl.inp vi
 hB : B ≤ g
 hne : vq.ownBlock ≠ some g
theorem partL_len {p : Pt} (h : p.r.length = 8) (m : Value) : (partL p m).length = 14 := by simp [partL, h]
theorem callerC_lo {p : Pt} (h : p.r.length = 8) (m : Value) (wl : Wld) (vq vi : Value) (y : Bool) (i : Nat) (hi : i < 14) : (callerC p m wl vq vi y)[i]? = (partC p m)[i]? := by
 simp only [callerC, callerL, partC, List.getElem?_toArray]
 rw [List.getElem?_append_left (by rw [partL_len h]; exact hi)]
theorem callerC_hi {p : Pt} (h : p.r.length = 8) (m : Value) (wl : Wld) (vq vi : Value) (y : Bool) (i : Nat) : (callerC p m wl vq vi y)[14 + i]? = [Value.int .i64 wl.frames, .int .i64 wl.tick, .int .i64 wl.ver, vq, vi, .bool y][i]? := by
 simp only [callerC, callerL, List.getElem?_toArray]
 rw [List.getElem?_append_right (by rw [partL_len h]; omega), partL_len h, Nat.add_sub_cancel_left]
theorem callerC_setLo {p : Pt} (h : p.r.length = 8) (m : Value) (wl : Wld) (vq vi : Value) (y : Bool) (i : Nat) (hi : i < 14) (u : Value) {p' : Pt} {m' : Value} (he : (partC p m).setIfInBounds i u = partC p' m') : (callerC p m wl vq vi y).setIfInBounds i u = callerC p' m' wl vq vi y := by
 have he' : (partL p m).set i u = partL p' m' := by
  have := congrArg Array.toList he
  simpa [partC] using this
 simp only [callerC, callerL, List.setIfInBounds_toArray]
 rw [List.set_append_left _ _ (by rw [partL_len h]; exact hi), he']
theorem callerC_setHi {p : Pt} (h : p.r.length = 8) (m : Value) (wl wl' : Wld) (vq vi vq' vi' : Value) (y y' : Bool) (i : Nat) (u : Value) (he : [Value.int .i64 wl.frames, .int .i64 wl.tick, .int .i64 wl.ver, vq, vi, .bool y].set i u = [Value.int .i64 wl'.frames, .int .i64 wl'.tick, .int .i64 wl'.ver, vq', vi', .bool y']) :
  (callerC p m wl vq vi y).setIfInBounds (14 + i) u = callerC p m wl' vq' vi' y' := by
 simp only [callerC, callerL, List.setIfInBounds_toArray]
 rw [List.set_append_right _ _ (by rw [partL_len h]; omega), partL_len h, Nat.add_sub_cancel_left, he]
theorem Pt.Bd.setReg {p : Pt} (h : p.Bd) (a v : Nat) (hv : v < 4294967296) : (p.set a v).Bd := by
 refine ⟨by show (p.r.set a v).length = 8; rw [List.length_set]; exact h.r8, fun i => ?_, h.pcb, h.stb, h.idb, h.sizeb⟩
 show (p.r.set a v).getD i 0 < _
 rw [List.getD_eq_getElem?_getD, List.getElem?_set]
 have := h.rb i
 rw [List.getD_eq_getElem?_getD] at this
 split
 ·split
  ·exact hv
  ·simp
 ·exact this
namespace CalX
variable {B : Nat} {W W' : World} {g : Nat} {p : Pt} {wl : Wld} {y : Bool} {m vq vi : Value}
theorem lt (h : CalX B W g p wl y m vq vi) : g < W.heap.size := (Array.getElem?_eq_some_iff.1 h.blk).1
theorem r8 (h : CalX B W g p wl y m vq vi) : p.r.length = 8 := h.bd.r8
theorem free (h : CalX B W g p wl y m vq vi) (i : Nat) : W.frozen? ⟨g, i, none⟩ = false := blk_free h.blk i
theorem cid (h : CalX B W g p wl y m vq vi) : W.cell? ⟨g, 0, none⟩ = some (.int .i64 p.id) := blk_cell h.blk 0 (by rw [callerC_lo h.r8 _ _ _ _ _ 0 (by omega)]; rfl)
theorem creg (h : CalX B W g p wl y m vq vi) (a : Nat) (ha : a < 8) : W.cell? ⟨g, 3 + a, none⟩ = some (.int .u32 (p.g a : Nat)) := blk_cell h.blk (3 + a) (by rw [callerC_lo h.r8 _ _ _ _ _ _ (by omega)]; exact partC_reg h.r8 m a ha)
theorem cst (h : CalX B W g p wl y m vq vi) : W.cell? ⟨g, 12, none⟩ = some (.int .u8 (p.st : Nat)) := blk_cell h.blk 12 (by rw [callerC_lo h.r8 _ _ _ _ _ _ (by omega)]; exact partC_end h.r8 m 1 (by omega))
theorem cmem (h : CalX B W g p wl y m vq vi) : W.cell? ⟨g, 13, none⟩ = some m := blk_cell h.blk 13 (by rw [callerC_lo h.r8 _ _ _ _ _ _ (by omega)]; exact partC_end h.r8 m 2 (by omega))
theorem chi (h : CalX B W g p wl y m vq vi) (i : Nat) {u : Value} (hu : [Value.int .i64 wl.frames, .int .i64 wl.tick, .int .i64 wl.ver, vq, vi, .bool y][i]? = some u) : W.cell? ⟨g, 14 + i, none⟩ = some u := blk_cell h.blk (14 + i) (by rw [callerC_hi h.r8]; exact hu)
theorem non (h : CalX B W g p wl y m vq vi) (hg : Chg Non W W') : CalX B W' g p wl y m vq vi :=
 ⟨blk_keep h.blk hg (fun e => e), h.bd, h.mem.non hg, h.qs.non hg (fun _ _ h => h.keep hg (fun _ _ e => e)), h.inp.non hg, h.hB, h.hne⟩
theorem set (h : CalX B W g p wl y m vq vi) (i : Nat) (u : Value) {p' : Pt} {m' : Value} {wl' : Wld} {vi' : Value} {y' : Bool} (he : (callerC p m wl vq vi y).setIfInBounds i u = callerC p' m' wl' vq vi' y') (hb : p'.Bd) (hm : BytesV (calK B g vq) W p'.mem m') (hq : wl'.qs = wl.qs) (hi : BytesV (calK B g vq) W wl'.inp vi') :
  CalX B (W.setCell ⟨g, i, none⟩ u) g p' wl' y' m' vq vi' := by
 have hg := chg_set W g i u
 have hk : ∀ b, calK B g vq b → ¬ b = g := fun b e => e.2.1
 refine ⟨?_, hb, hm.keep hg hk, ?_, hi.keep hg hk, h.hB, h.hne⟩
 ·rw [← he]
  exact blk_set i u h.blk
 ·rw [hq]
  exact h.qs.keep hg (fun g' e e2 => h.hne (by rw [e, e2])) (fun _ _ h => h.keep hg hk)
theorem setR (h : CalX B W g p wl y m vq vi) (a v : Nat) (ha : a < 8) (hv : v < 4294967296) : CalX B (W.setCell ⟨g, 3 + a, none⟩ (.int .u32 (v : Nat))) g (p.set a v) wl y m vq vi :=
 h.set (3 + a) _ (callerC_setLo h.r8 _ _ _ _ _ _ (by omega) _ (part_setR h.r8 m a v ha)) (h.bd.setReg a v hv) h.mem rfl h.inp
theorem setSt (h : CalX B W g p wl y m vq vi) (v : Nat) (hv : v < 256) : CalX B (W.setCell ⟨g, 12, none⟩ (.int .u8 (v : Nat))) g { p with st := v } wl y m vq vi :=
 h.set 12 _ (callerC_setLo h.r8 _ _ _ _ _ _ (by omega) _ (part_set12 h.r8 m v)) ⟨h.bd.r8, h.bd.rb, h.bd.pcb, hv, h.bd.idb, h.bd.sizeb⟩ h.mem rfl h.inp
theorem setMem (h : CalX B W g p wl y m vq vi) (l : List UInt8) (m' : Value) (hm : BytesV (calK B g vq) W l m') : CalX B (W.setCell ⟨g, 13, none⟩ m') g { p with mem := l } wl y m' vq vi :=
 h.set 13 _ (callerC_setLo h.r8 _ _ _ _ _ _ (by omega) _ (part_set13 h.r8 m m')) ⟨h.bd.r8, h.bd.rb, h.bd.pcb, h.bd.stb, h.bd.idb, h.bd.sizeb⟩ hm rfl h.inp
theorem setInp (h : CalX B W g p wl y m vq vi) (l : List UInt8) (vi' : Value) (hm : BytesV (calK B g vq) W l vi') : CalX B (W.setCell ⟨g, 18, none⟩ vi') g p { wl with inp := l } y m vq vi' :=
 h.set 18 _ (callerC_setHi h.r8 m wl { wl with inp := l } vq vi vq vi' y y 4 vi' rfl) h.bd h.mem rfl hm
theorem setY (h : CalX B W g p wl y m vq vi) (b : Bool) : CalX B (W.setCell ⟨g, 19, none⟩ (.bool b)) g p wl b m vq vi :=
 h.set 19 _ (callerC_setHi h.r8 m wl wl vq vi vq vi y b 5 (.bool b) rfl) h.bd h.mem rfl h.inp
end CalX
def CalP (B g : Nat) (p' : Pt) (wl' : Wld) (y' : Bool) (r : Bool) (W : World) (e : Ending) (W' : World) : Prop :=
 e = .returned (.bool r) ∧ (∃ m vq vi, CalX B W' g p' wl' y' m vq vi) ∧ Chg (From B) W W'
theorem chg_own {W : World} {B g i : Nat} {u : Value} (h : B ≤ g) : Chg (From B) W (W.setCell ⟨g, i, none⟩ u) := (chg_set W g i u).mono (fun x e => by show B ≤ x; omega)
set_option maxRecDepth 100000 in
theorem cYield_ok (B : Nat) (W : World) (g : Nat) (p : Pt) (wl : Wld) (y : Bool) (m vq vi : Value) (h : CalX B W g p wl y m vq vi) :
  Calls Tryz.prog 258 #[.pointer (some ⟨g, 0, none⟩)] W (CalP B g p wl true true W) := by
 have c19 := h.chi 5 (u := .bool y) rfl
 have z := h.free 19
 have HX := Lib.hid (h.setY true)
 have hB := h.hB
 clear h
 go_enter Tryz.func258, Tryz.ntmps258
 go_wp2_with fail
 go_ret
 exact ⟨rfl, ⟨_, _, _, HX.out⟩, chg_own hB⟩
set_option maxRecDepth 100000 in
theorem cHalt_ok (B : Nat) (W : World) (g : Nat) (p : Pt) (wl : Wld) (y : Bool) (m vq vi : Value) (h : CalX B W g p wl y m vq vi) :
  Calls Tryz.prog 264 #[.pointer (some ⟨g, 0, none⟩)] W (CalP B g { p with st := 1 } wl y true W) := by
 have c19 := h.cst
 have z := h.free 12
 have HX := Lib.hid (h.setSt 1 (by omega))
 have hB := h.hB
 clear h
 go_enter Tryz.func264, Tryz.ntmps264
 go_wp2_with fail
 go_ret
 exact ⟨rfl, ⟨_, _, _, HX.out⟩, chg_own hB⟩
end
section
open Go.RowKit
theorem res_tct {P : Program} {fn : Func} {p q q0 : Tmp} {ty : TypeId} (h : fn.results = #[.tmp q0, .cell p ty, .tmp q]) (tmps : Array Value) (w : World) (g : Nat) (t : TypeId) (cs : Array Value) (fr : Nat × Nat) (d : TypeDesc) (v v0 : Value)
  (hp : tmps.getD p undef = .pointer (some ⟨g, 0, none⟩)) (hv0 : tmps.getD q0 undef = v0) (hv : tmps.getD q undef = v) (hg : w.heap[g]? = some (.cells cs t fr))
  (hu : P.underlying ty = some d) (hd : (match d with | .struct _ | .array _ _ => true | _ => false) = true) (hi : (P.info? ty).map (·.size) = some cs.size) :
  (results fn tmps).run P w = .ok (.tuple #[v0, .agg cs, v]) w := by
 have hp' : tmps[p]?.getD undef = .pointer (some ⟨g, 0, none⟩) := by simpa using hp
 have hv' : tmps[q]?.getD undef = v := by simpa using hv
 have hv0' : tmps[q0]?.getD undef = v0 := by simpa using hv0
 simp [results, h, hp', hv', hv0', asAddr, run_loadVar_row w g t ty cs fr d hg hu hd hi]
theorem res_cctt {P : Program} {fn : Func} {p p2 q q2 : Tmp} {ty ty2 : TypeId} (h : fn.results = #[.cell p ty, .cell p2 ty2, .tmp q, .tmp q2]) (tmps : Array Value) (w : World) (g g2 : Nat) (t t2 : TypeId) (cs cs2 : Array Value) (fr fr2 : Nat × Nat) (d d2 : TypeDesc) (v v2 : Value)
  (hp : tmps.getD p undef = .pointer (some ⟨g, 0, none⟩)) (hp2 : tmps.getD p2 undef = .pointer (some ⟨g2, 0, none⟩)) (hv : tmps.getD q undef = v) (hv2 : tmps.getD q2 undef = v2) (hg : w.heap[g]? = some (.cells cs t fr)) (hg2 : w.heap[g2]? = some (.cells cs2 t2 fr2))
  (hu : P.underlying ty = some d) (hd : (match d with | .struct _ | .array _ _ => true | _ => false) = true) (hi : (P.info? ty).map (·.size) = some cs.size)
  (hu2 : P.underlying ty2 = some d2) (hd2 : (match d2 with | .struct _ | .array _ _ => true | _ => false) = true) (hi2 : (P.info? ty2).map (·.size) = some cs2.size) :
  (results fn tmps).run P w = .ok (.tuple #[.agg cs, .agg cs2, v, v2]) w := by
 have hp' : tmps[p]?.getD undef = .pointer (some ⟨g, 0, none⟩) := by simpa using hp
 have hp2' : tmps[p2]?.getD undef = .pointer (some ⟨g2, 0, none⟩) := by simpa using hp2
 have hv' : tmps[q]?.getD undef = v := by simpa using hv
 have hv2' : tmps[q2]?.getD undef = v2 := by simpa using hv2
 simp [results, h, hp', hp2', hv', hv2', asAddr, run_loadVar_row w g t ty cs fr d hg hu hd hi, run_loadVar_row w g2 t2 ty2 cs2 fr2 d2 hg2 hu2 hd2 hi2]
set_option maxRecDepth 100000 in
theorem copied_ok (J : Nat → Prop) (A : Option Addr) (l : List (List UInt8)) (c : Nat) (w : World) (hr : RdL (msgV J) J 1 w A l) (hc : l.length ≤ c) (hcm : c ≤ maxLen) (hl : l.length ≤ 1000) :
  Calls Tryz.prog 278 #[.slice A l.length c] w fun e w' => ∃ v, e = .returned v ∧ OwnL (msgV (Exc w.heap.size v)) w.heap.size 50 1 w' v l ∧ Chg Non w w' := by
 unfold maxLen at hcm
 have HR := Lib.hid hr
 clear hr
 go_enter Tryz.func278, Tryz.ntmps278
 go_wp2_with fail
 go_loopw [3, 8] (fun ov iv wr => ∃ (k : Nat) (lv : Value), k ≤ l.length ∧ lv = ov ∧ iv = .int .i64 k ∧ Hid (OwnL (msgV (Exc w.heap.size lv)) w.heap.size 50 1 wr lv (l.take k)) ∧ Hid (Chg Non w wr)) (fun _ iv _ => l.length - (intOf iv).toNat)
 case atStart => exact ⟨0, _, Nat.zero_le _, rfl, rfl, Lib.hid (OwnL.nil _ _ _ _ _), Lib.hid (Chg.refl _ _)⟩
 case round =>
  obtain ⟨k, lv, hk, rfl, rfl, HO, HG⟩ := hrel
  by_cases hlt : k < l.length
  ·obtain ⟨a, ha⟩ : ∃ a, l[k]? = some a := ⟨_, List.getElem?_eq_getElem hlt⟩
   have hltd : decide ((k : Int) < (l.length : Int)) = true := by simpa using hlt
   obtain ⟨b, o, rfl, _, hat⟩ := (HR.out.non HG.out (fun a vs h => msgV_non _ _ _ _ HG.out h)).at_ (by omega)
   obtain ⟨vs, hvl, hrg, m, rfl, hbm, hal⟩ := hat k a ha
   have k0 : wr.cell? ⟨b, o + k, none⟩ = some m := by have := hrg 0 m rfl; rwa [Nat.mul_one, Nat.add_zero] at this
   have HS : Hid (l.take (k + 1) = l.take k ++ [a]) := Lib.hid (by
     obtain ⟨hk, rfl⟩ := List.getElem?_eq_some_iff.1 ha
     rw [List.take_succ_eq_append_getElem hk])
   obtain ⟨A4, c4, rfl, hc4, hm4, hrm, _⟩ := hbm
   have HCl := Lib.hid (SlClone_ok A4 a c4 wr hrm (by omega))
   clear ha hat hrg hrm hvl
   go_wp2_with fail
   refine HCl.out.mono ?_
   rintro e u3 ⟨A5, c5, rfl, q1, q2, q3, hg⟩
   have HGn := Lib.hid (HG.out.then_non hg)
   have HO3 := Lib.hid (HO.out.non hg (fun a vs h => h.keep hg (fun _ _ e => e)))
   have HM := Lib.hid q3
   have hsz3 := hg.size
   have hszw := HG.out.size
   clear hg q3 k0
   go_wp2_with (first
     | (refine sel (some 16) (.call _) ?_; refine Vm_stop ?_))
   refine HoleV.mk ?_
   refine wpList_snocL (msgV (fun b => Exc w.heap.size lv b ∧ b < u3.heap.size)) rfl (.tmp 12) (.tmp 15) 79 rfl w.heap.size 50 _ 1 24 Tryz.underlying79 info_clBy rfl (by omega) lv (l.take k) rfl ((HO3.out.mono (fun _ _ h => h.bound)).non ((Chg.refl Non u3).alloc _) (fun _ _ h => h.keep ((Chg.refl Non u3).alloc _) (fun _ _ e => e))) u3.heap.size a #[.slice A5 a.length c5] 50 rfl (blk_new _ _) rfl (by simp [Value.oneCell']) ?_ (by omega) (by simp; omega) (fun _ _ _ hg h => h.keep hg (fun b e => e.1.2)) ?_ ?_
   ·rw [List.length_take]; omega
   ·refine ⟨_, rfl, ((own_bytes HM.out q1 q2).bound.non ((Chg.refl Non u3).alloc _)).mono (fun b e => ⟨⟨?_, fun e2 => ?_⟩, e.2⟩), hal⟩
    ·have h1 : wr.heap.size ≤ b := e.1
     omega
    ·have h1 : wr.heap.size ≤ b := e.1
     have := (HO.out.ge e2).2
     omega
   intro v2 w2 ho hg hv
   have HO2 : Hid (OwnL (msgV (Exc w.heap.size v2)) w.heap.size 50 1 w2 v2 (l.take (k + 1))) := Lib.hid (by
     rw [HS.out]
     refine ho.mono (fun a vs h => h.mono (fun b e => ⟨e.1.1, fun e2 => ?_⟩))
     rcases hv b e2 with e3 | e3
     · exact e.1.2 e3
     · have := e.2; simp at e3; omega)
   have HG2 : Hid (Chg Non w w2) := Lib.hid ((HGn.out.alloc _).then_new hg (fun x e => (HO.out.ge e).1))
   obtain ⟨A6, c6, hv6, hl6, hm6, _⟩ := ho.rd
   obtain ⟨n6, hn6⟩ : ∃ q, (l.take k ++ [a]).length = q := ⟨_, rfl⟩
   rw [hn6] at hv6
   subst hv6
   clear ho hg hv
   go_wp2_with fail
   exact ⟨⟨k + 1, _, by omega, rfl, by simp, HO2, HG2⟩, by simp [intOf]; omega⟩
  ·obtain rfl : k = l.length := by omega
   have hltd : decide ((l.length : Int) < (l.length : Int)) = false := by simp
   rw [List.take_length] at HO
   go_wp2_with fail
   go_ret
   exact ⟨_, rfl, HO.out, HG.out⟩
end
section
open Go.RowKit
theorem wp_snocL {P : Program} {α : Type} (R : World → α → List Value → Prop) {o : Oper} {a : Act} {w : World} {K : Act → World → Prop} {Q : Exit → Act → World → Prop} (s x : Operand) (t : TypeId)
  (ho : o.op = .call { callee := .builtin .append, args := #[s, x], argTypes := #[t, t] }) (B : Nat) (e : TypeId) (z : Value) (sz bytes : Nat) (ht : P.underlying t = some (.slice e)) (hi : (P.info? e).map (fun i => (i.zero, i.size, i.bytes)) = some (some z, sz, bytes))
  (hzs : z.cells.size = sz) (hsz : 0 < sz) (v : Value) (l : List α) (hs : a.eval s = v) (hown : OwnL R B e sz w v l) (b : Nat) (k : α) (cs : Array Value) (tb : TypeId) (hx : a.eval x = .slice (some ⟨b, 0, none⟩) 1 1) (hb : w.heap[b]? = some (.cells cs tb (0, 0))) (hcs : cs.size = sz) (h1 : cs.all (·.oneCell') = true)
  (hl : l.length ≤ 1000000) (hby : bytes ≤ 100000) (hB : B ≤ w.heap.size) (hR : ∀ w' a vs, Chg (fun k => v.ownBlock = some k) w w' → R w a vs → R w' a vs) (ha : R w k cs.toList)
  (h : ∀ v2 w2, OwnL R B e sz w2 v2 (l ++ [k]) → Chg (fun k => v.ownBlock = some k) w w2 → (∀ g, v2.ownBlock = some g → v.ownBlock = some g ∨ g = w.heap.size) → K (a.put o.dst v2) w2) : o.wp P a w K Q := by
 obtain ⟨i0, hi0, hz0, hs0, hb0⟩ := info_parts hi
 have hown' := hown
 obtain ⟨xss, hro, h3, h4, h5⟩ := hown
 refine wp_append_lies w s x t ho B e i0 z sz bytes ht hi0 hz0 hs0 hb0 hzs hsz v l.length xss.flatten hs hro ⟨b, 0, none⟩ 1 1 cs.toList hx (by simp [hcs]) ?_ ?_ (by omega) (by unfold maxLen; omega) (Nat.le_trans (Nat.mul_le_mul (show l.length + 1 ≤ 1000001 by omega) hby) (by omega)) hB _ rfl ?_
 ·intro j u hu
  rw [addr_none, Nat.zero_add, cell_of_row _ _ _ _ _ _ hb]
  simpa using hu
 ·intro u hu
  have := Array.all_eq_true.1 h1
  obtain ⟨i, hi⟩ := List.getElem?_of_mem hu
  rw [Array.getElem?_toList] at hi
  obtain ⟨hlt, e⟩ := Array.getElem?_eq_some_iff.1 hi
  have := this i hlt
  rw [e] at this
  exact this
 ·intro g cap w2 h2 hgrow hat hlt
  have hg : Chg (fun k => v.ownBlock = some k) w w2 := (Chg.refl (fun k => v.ownBlock = some k) w).grown hgrow fun g' hg' => .inl hg'
  refine h _ _ ?_ hg (fun g' e => by
    have : g = g' := by simpa [Value.ownBlock] using e
    subst this
    exact hat)
  refine ⟨xss ++ [cs.toList], ?_, by simp [h3], ?_, ?_⟩
  ·rw [List.length_append, List.flatten_append]
   simpa using h2
  ·intro x hx
   rcases List.mem_append.1 hx with hx | hx
   ·exact h4 x hx
   ·obtain rfl := List.mem_singleton.1 hx
    rw [Array.length_toList, hcs]
  ·intro i c x hc hx
   by_cases hil : i < l.length
   ·rw [List.getElem?_append_left hil] at hc
    rw [List.getElem?_append_left (by omega)] at hx
    exact hR _ _ _ hg (h5 i c x hc hx)
   ·have hil2 : i < (l ++ [k]).length := (List.getElem?_eq_some_iff.1 hc).1
    obtain rfl : i = l.length := by simp at hil2; omega
    rw [List.getElem?_append_right (Nat.le_refl _), Nat.sub_self] at hc
    rw [List.getElem?_append_right (by omega), h3, Nat.sub_self] at hx
    simp only [List.getElem?_cons_zero, Option.some.injEq] at hc hx
    subst hc hx
    exact hR _ _ _ hg ha
def rgOf (p : Pn) : Rg := ⟨p.base, p.size⟩
theorem info_rg : (Tryz.prog.info? 81).map (fun i => (i.zero, i.size, i.bytes)) = some (some (.agg #[.int .i64 0, .int .i64 0]), 2, 16) := by kernel_rfl
def PhI (w : World) (k : Kn) (n : Nat) (ol om iv : Value) (wr : World) : Prop := ∃ (j : Nat) (lv mv : Value), j ≤ n ∧ lv = ol ∧ mv = om ∧ iv = .int .i64 j ∧ Hid (OwnL rgV w.heap.size 81 2 wr lv ((k.c.ps.take j).map rgOf)) ∧ Hid (OwnL (msgV (Upto w.heap.size)) w.heap.size 50 1 wr mv ((k.s.parts.take j).map (·.mem))) ∧ Hid (∀ b, lv.ownBlock = some b → mv.ownBlock ≠ some b) ∧ Hid (Chg Non w wr)
structure PR (B : Nat) (W : World) (lv mv : Value) (Ll : List Rg) (Lm : List (List UInt8)) : Prop where
 l : OwnL rgV B 81 2 W lv Ll
 m : OwnL (msgV (Upto B)) B 50 1 W mv Lm
 d : ∀ b, lv.ownBlock = some b → mv.ownBlock ≠ some b
theorem PR.non {B : Nat} {W W' : World} {lv mv : Value} {Ll : List Rg} {Lm : List (List UInt8)} (h : PR B W lv mv Ll Lm) (hg : Chg Non W W') : PR B W' lv mv Ll Lm :=
 ⟨h.l.non hg (fun _ _ h => h), h.m.non hg (fun _ _ h => h.keep hg (fun _ _ e => e)), h.d⟩
theorem PR.addL {B : Nat} {W W' : World} {lv lv2 mv : Value} {Ll Ll2 : List Rg} {Lm : List (List UInt8)} (h : PR B W lv mv Ll Lm) (ho : OwnL rgV B 81 2 W' lv2 Ll2) (hg : Chg (fun b => lv.ownBlock = some b) W W') (hv : ∀ g, lv2.ownBlock = some g → lv.ownBlock = some g ∨ g = W.heap.size) : PR B W' lv2 mv Ll2 Lm :=
 ⟨ho, h.m.keep hg (fun b e e2 => h.d b e2 e) (fun _ _ h2 => h2.keep hg (fun b e e2 => by have e3 : b < B := e; have := (h.l.ge e2).1; omega)), fun b e e2 => by
   rcases hv b e with e3 | e3
   · exact h.d b e3 e2
   · have := (h.m.ge e2).2; omega⟩
theorem PR.addM {B : Nat} {W W' : World} {lv mv mv2 : Value} {Ll : List Rg} {Lm Lm2 : List (List UInt8)} (h : PR B W lv mv Ll Lm) (ho : OwnL (msgV (Upto B)) B 50 1 W' mv2 Lm2) (hg : Chg (fun b => mv.ownBlock = some b) W W') (hv : ∀ g, mv2.ownBlock = some g → mv.ownBlock = some g ∨ g = W.heap.size) : PR B W' lv mv2 Ll Lm2 :=
 ⟨h.l.keep hg (fun b e e2 => h.d b e e2) (fun _ _ h => h), ho, fun b e e2 => by
   rcases hv b e2 with e3 | e3
   · exact h.d b e e3
   · have := (h.l.ge e).2; omega⟩
set_option maxRecDepth 100000 in
theorem phys_ok (N : Nat → Prop) (w : World) (k : Kn) (a : KAt) (h : KerB N w k a) (hN : ∀ b, N b → b < w.heap.size) (hlen : k.c.ps.length = k.s.parts.length) (hl : k.s.parts.length ≤ 1000) (h0 : 0 < k.s.parts.length)
  (hmay : ∀ (i : Nat) (p : Pn) (q : Pt), k.c.ps[i]? = some p → k.s.parts[i]? = some q → regMay p.base p.size = true ∧ (q.mem.length : Int) = p.size) (hall : regAll (k.c.ps.map rgOf) = 0) :
  Calls Tryz.prog 31 #[.pointer (some ⟨a.p, 0, none⟩)] w fun e w' => ∃ v, e = .returned v ∧ BytesV (From w.heap.size) w' (physL ((k.c.ps.map rgOf).zip (k.s.parts.map (·.mem)))) v ∧ Chg Non w w' := by
 obtain ⟨ap, q, v1, v2, v3, vp⟩ := a
 obtain ⟨A2, c2, e2, hc2, hm2, _⟩ := h.ps
 simp only at e2
 subst e2
 obtain ⟨g, cap, cur, e1, hBg, _, r1, _, r3, _⟩ := h.parts.shape h0
 simp only at e1
 subst e1
 have HK := Lib.hid h
 have HNo := Lib.hid (none_ok N w k ⟨ap, q, v1, .slice A2 k.c.ps.length c2, v3, .slice (some ⟨g, 0, none⟩) k.s.parts.length cap⟩ h)
 have HMay := Lib.hid hmay
 obtain ⟨n, hn⟩ : ∃ n, k.c.ps.length = n := ⟨_, rfl⟩
 have hn2 : k.s.parts.length = n := by omega
 have HNn := Lib.hid (And.intro hn hn2)
 unfold maxLen at hm2
 clear h hmay r1 r3 hBg
 show Calls _ _ #[.pointer (some ⟨ap, 0, none⟩)] _ _
 go_enter Tryz.func31, Tryz.ntmps31
 go_wp2_with fail
 refine HNo.out.mono ?_
 rintro e u ⟨rfl, hg⟩
 have HGu := Lib.hid hg
 obtain ⟨vq, hk, _⟩ := (HK.out.non hg).cell
 have f2 : u.cell? ⟨ap, 2, none⟩ = some (.slice A2 k.c.ps.length c2) := blk_cell hk 2 rfl
 rw [hn] at f2 hc2
 have hapw : ap < w.heap.size := hN ap (HK.out.sub ap (.inl rfl))
 have hgw : g < w.heap.size := hN g (HK.out.sub g (.inr (.inr rfl)))
 clear hg hk hn hn2 hlen
 go_wp2_with fail
 go_loopw [3, 4, 17] (fun ol om iv wr => PhI w k n ol om iv wr) (fun _ _ iv _ => n - (intOf iv).toNat)
 case atStart => exact ⟨0, _, _, Nat.zero_le _, rfl, rfl, rfl, Lib.hid (OwnL.nil _ _ _ _ _), Lib.hid (OwnL.nil _ _ _ _ _), Lib.hid (fun b e => by simp [Value.ownBlock] at e), HGu⟩
 case round =>
  obtain ⟨j, lv, mv, hj, rfl, rfl, rfl, HL, HM, HD, HG⟩ := hrel
  by_cases hlt : j < n
  ·obtain ⟨pp, hpp⟩ : ∃ p, k.c.ps[j]? = some p := ⟨_, List.getElem?_eq_getElem (by rw [HNn.out.1]; exact hlt)⟩
   obtain ⟨qq, hqq⟩ : ∃ p, k.s.parts[j]? = some p := ⟨_, List.getElem?_eq_getElem (by rw [HNn.out.2]; exact hlt)⟩
   have HKr := Lib.hid (HK.out.non HG.out)
   obtain ⟨_, _, e2, _, _, hr2⟩ := HKr.out.ps
   injection e2 with e2 _ _
   obtain ⟨b, o, rfl, _, hat⟩ := hr2.at_ (by show 0 < k.c.ps.length; rw [HNn.out.1]; omega)
   subst e2
   obtain ⟨_, _, hrg, im, rfl, him, _⟩ := hat j pp hpp
   obtain ⟨Ai, ci, rfl, _⟩ := him
   have hpo := (HK.out.parts.mono (R' := ptV (Upto w.heap.size)) (fun _ _ h => h.bound.mono (fun b e => e.2))).non HG.out (fun _ _ h => h.keep HG.out (fun _ _ e => e))
   obtain ⟨g', cap', cur, e1, _, _, _, _, _, hel⟩ := hpo.shape h0
   injection e1 with e1 _ e3
   injection e1 with e1
   injection e1 with e1 _ _
   subst e1 e3
   obtain ⟨_, _, hrq, qmv, rfl, hqb, hqbd, hql⟩ := hel j qq hqq
   have HQb := Lib.hid hqb
   obtain ⟨Am, cm, rfl, _, _, _, _⟩ := hqb
   have HP := Lib.hid hpp
   have HQ := Lib.hid hqq
   obtain ⟨pid, pb, psz, pkp, pim⟩ := pp
   have k0 : wr.cell? ⟨b, o + j * 5, none⟩ = some (.int .i64 pid) := hrg 0 _ rfl
   have k1 : wr.cell? ⟨b, o + j * 5 + 1, none⟩ = some (.int .i64 pb) := hrg 1 _ rfl
   have k2 : wr.cell? ⟨b, o + j * 5 + 2, none⟩ = some (.int .i64 psz) := hrg 2 _ rfl
   have k3 : wr.cell? ⟨b, o + j * 5 + 3, none⟩ = some (.bool pkp) := hrg 3 _ rfl
   have k4 : wr.cell? ⟨b, o + j * 5 + 4, none⟩ = some (.slice Ai pim.length ci) := hrg 4 _ rfl
   have fmr : wr.cell? ⟨g, j * 14 + 13, none⟩ = some (.slice Am qq.mem.length cm) := hrq 13 _ (by have := partC_end hqbd.r8 (.slice Am qq.mem.length cm) 2 (by omega); simpa [partC] using this)
   obtain ⟨vq, hkr, _⟩ := HKr.out.cell
   have f5r : wr.cell? ⟨ap, 5, none⟩ = some (.slice (some ⟨g, 0, none⟩) k.s.parts.length cap) := blk_cell hkr 5 rfl
   have hltd : decide ((j : Int) < (n : Int)) = true := by simpa using hlt
   have hji : (j : Int) < (n : Int) := by omega
   have hjk : (j : Int) < (k.s.parts.length : Int) := by rw [HNn.out.2]; omega
   have kb := lt_of_cell k0
   simp only at kb
   obtain ⟨qm, hqm⟩ : ∃ x, qq.mem = x := ⟨_, rfl⟩
   rw [hqm] at fmr HQb hql
   have HQm := Lib.hid hqm
   clear hpp hqq hr2 hat hrg hel hrq hkr hqm
   go_wp2_with fail
   obtain ⟨V, hV⟩ : ∃ x, x = (wr.alloc (.cells #[.int .i64 pid, .int .i64 pb, .int .i64 psz, .bool pkp, .slice Ai pim.length ci] 83)).drew := ⟨_, rfl⟩
   have hgV : Chg Non wr V := by rw [hV]; exact ((Chg.refl Non wr).alloc _).drew
   obtain ⟨H, hH⟩ : ∃ x, x = wr.heap.size := ⟨_, rfl⟩
   have hHb : V.heap[H]? = some (.cells #[.int .i64 pid, .int .i64 pb, .int .i64 psz, .bool pkp, .slice Ai pim.length ci] 83 (0, 0)) := by rw [hV, hH]; exact heap_alloc_new _ _
   have hrg1 : V.rangeAt H 1 [.int .i64 pb, .int .i64 psz] := fun i v hv => by
    have hi : i = 0 ∨ i = 1 := by have := (List.getElem?_eq_some_iff.1 hv).1; simp at this; omega
    rcases hi with rfl | rfl
    ·simp at hv; subst hv; exact blk_cell hHb 1 rfl
    ·simp at hv; subst hv; exact blk_cell hHb 2 rfl
   obtain ⟨SS, hSS⟩ : ∃ SS : Nat → Prop, SS = fun b => lv.ownBlock = some b ∨ mv.ownBlock = some b := ⟨_, rfl⟩
   have HPr : PR w.heap.size wr lv mv ((k.c.ps.take j).map rgOf) ((k.s.parts.take j).map (·.mem)) := ⟨HL.out, HM.out, HD.out⟩
   have HPV : PR w.heap.size V lv mv ((k.c.ps.take j).map rgOf) ((k.s.parts.take j).map (·.mem)) := HPr.non hgV
   have HGV := Lib.hid (HG.out.then_non hgV)
   have hwV := HGV.out.size
   have hSlt : ∀ b, SS b → w.heap.size ≤ b ∧ b < wr.heap.size := fun b e => by
    rw [hSS] at e
    rcases e with e | e
    ·exact HPr.l.ge e
    ·exact HPr.m.ge e
   have hSge : ∀ b, SS b → w.heap.size ≤ b := fun b e => (hSlt b e).1
   have hSup : ∀ b, Upto w.heap.size b → ¬ SS b := fun b e e2 => by have e3 : b < w.heap.size := e; have := hSge b e2; omega
   have hHn : ¬ SS H := fun e => by have := (hSlt _ e).2; omega
   have hn5 : ¬ SS (⟨ap, 5, none⟩ : Addr).block := fun e => by have := hSge _ e; simp only at this; omega
   have hnm : ¬ SS (⟨g, j * 14 + 13, none⟩ : Addr).block := fun e => by have := hSge _ e; simp only at this; omega
   have f5 : V.cell? ⟨ap, 5, none⟩ = some (.slice (some ⟨g, 0, none⟩) k.s.parts.length cap) := hgV.cell_some f5r (fun e => e)
   have fm : V.cell? ⟨g, j * 14 + 13, none⟩ = some (.slice Am qm.length cm) := hgV.cell_some fmr (fun e => e)
   have HQv := Lib.hid (HQb.out.non hgV)
   have hLl : (k.c.ps.take j).length ≤ 1000000 ∧ ((k.c.ps.take j).map rgOf).length ≤ 1000000 := by rw [List.length_map, List.length_take]; have := HNn.out.1; omega
   have hLl := hLl.2
   have hLm : ((k.s.parts.take j).map (·.mem)).length ≤ 1000000 := by rw [List.length_map, List.length_take]; omega
   have HS1 : Hid ((k.c.ps.take (j + 1)).map rgOf = ((k.c.ps.take j).map rgOf) ++ [⟨pb, psz⟩]) := Lib.hid (by
     obtain ⟨hk, he⟩ := List.getElem?_eq_some_iff.1 HP.out
     rw [List.take_succ_eq_append_getElem hk, List.map_append, he]
     rfl)
   have HS2 : Hid ((k.s.parts.take (j + 1)).map (·.mem) = ((k.s.parts.take j).map (·.mem)) ++ [qm]) := Lib.hid (by
     obtain ⟨hk, he⟩ := List.getElem?_eq_some_iff.1 HQ.out
     rw [List.take_succ_eq_append_getElem hk, List.map_append, he, ← HQm.out]
     rfl)
   clear hgV k0 k1 k2 k3 k4 fmr f5r kb hHb HPr
   refine wp_region_held_drew (S := Chg SS (wr.alloc (.cells #[.int .i64 pid, .int .i64 pb, .int .i64 psz, .bool pkp, .slice Ai pim.length ci] 83)).drew) (by kernel_rfl) (Chg.refl _ _) (fun hHeld => ?_)
   clear hHeld
   rw [← hV, ← hH]
   clear hV hH
   refine hp 0 22 (lv) rfl (Chg.refl _ _) ?_
   refine hp 1 23 (.pointer (some ⟨H, 1, none⟩)) rfl (Chg.refl _ _) ?_
   refine h_load 2 (some 24) 81 (.tmp 23) H 1 #[.int .i64 pb, .int .i64 psz] _ rfl (by kernel_rfl) (by kernel_rfl) (by kernel_rfl) (by kernel_rfl) (by kernel_rfl) (fun _ _ _ h => h) (by kernel_rfl) (by kernel_rfl) (fun W hW => range_keepS hrg1 hW hHn) Tryz.underlying81 rfl (by kernel_rfl) (Chg.refl _ _) ?_
   simp only [Act.put, sA, sB, sC]
   refine hp 5 27 (mv) rfl (Chg.refl _ _) ?_
   refine hp 6 28 (.pointer (some ⟨ap, 0, none⟩)) rfl (Chg.refl _ _) ?_
   refine hp 7 29 (.pointer (some ⟨ap, 0, none⟩)) rfl (Chg.refl _ _) ?_
   refine hp 8 30 (.pointer (some ⟨ap, 4, none⟩)) rfl (Chg.refl _ _) ?_
   refine hp 9 31 (.pointer (some ⟨ap, 5, none⟩)) rfl (Chg.refl _ _) ?_
   refine hp 10 32 (.slice (some ⟨g, 0, none⟩) k.s.parts.length cap) rfl (Chg.refl _ _) ?_ (he := (fun W hW => by have hc := hW.cell_some f5 hn5; go_simp))
   refine hp 11 33 (.int .i64 j) rfl (Chg.refl _ _) ?_
   refine hp 12 34 (.pointer (some ⟨g, j * 14, none⟩)) rfl (Chg.refl _ _) ?_
   refine hp 13 35 (.pointer (some ⟨g, j * 14 + 13, none⟩)) rfl (Chg.refl _ _) ?_
   refine hp 14 36 (.slice Am qm.length cm) rfl (Chg.refl _ _) ?_ (he := (fun W hW => by have hc := hW.cell_some fm hnm; go_simp))
   refine h_two 3 15 (by kernel_rfl) rfl rfl (by kernel_rfl) (by kernel_rfl) ?_ ?_
   ·intro K hK
    go_simp
    have a1 : Chg Non V (V.alloc (.cells #[.int .i64 pb, .int .i64 psz] 81)) := (Chg.refl Non V).alloc _
    have hb1 := heap_alloc_new V (.cells #[.int .i64 pb, .int .i64 psz] 81)
    have P1 := HPV.non a1
    refine hK.out _ _ ((a1.of_non : Chg SS V (V.alloc (.cells #[.int .i64 pb, .int .i64 psz] 81)))) (fun _ => ?_)
    clear hK K
    try simp only [Act.put, sA, sB, sC]
    refine h_two 4 15 (by kernel_rfl) rfl rfl (by kernel_rfl) (by kernel_rfl) ?_ ?_
    ·intro K hK
     refine wp_snocL rgV (.tmp 22) (.tmp 25) 134 rfl w.heap.size 81 _ 2 16 Tryz.underlying134 info_rg rfl (by omega) lv ((k.c.ps.take j).map rgOf) rfl P1.l V.heap.size (⟨pb, psz⟩ : Rg) #[.int .i64 pb, .int .i64 psz] 81 rfl hb1 rfl (by simp [Value.oneCell']) hLl (by omega) (Nat.le_trans hwV ((a1.of_non : Chg SS V (V.alloc (.cells #[.int .i64 pb, .int .i64 psz] 81)))).size) (fun _ _ _ _ h => h) rfl ?_
     intro lv2 X2 ho2 hg2 hv2
     have P2 := P1.addL ho2 hg2 hv2
     refine hK.out _ _ (((a1.of_non : Chg SS V (V.alloc (.cells #[.int .i64 pb, .int .i64 psz] 81))).trans_same (hg2.mono (fun x e => by rw [hSS]; exact .inl e)))) (fun _ => ?_)
     clear hK K
     try simp only [Act.put, sA, sB, sC]
     refine h_one 15 (by kernel_rfl) rfl (by kernel_rfl) ?_
     intro K hK
     go_simp
     have a3 : Chg Non X2 (X2.alloc (.cells #[.slice Am qm.length cm] 50)) := (Chg.refl Non X2).alloc _
     have hb3 := heap_alloc_new X2 (.cells #[.slice Am qm.length cm] 50)
     have P3 := P2.non a3
     refine hK.out _ _ ((((a1.of_non : Chg SS V (V.alloc (.cells #[.int .i64 pb, .int .i64 psz] 81))).trans_same (hg2.mono (fun x e => by rw [hSS]; exact .inl e))).then_non a3)) (fun _ => ?_)
     clear hK K
     try simp only [Act.put, sA, sB, sC]
     refine h_one 16 (by kernel_rfl) rfl (by kernel_rfl) ?_
     intro K hK
     refine wp_snocL (msgV (Upto w.heap.size)) (.tmp 27) (.tmp 37) 79 rfl w.heap.size 50 _ 1 24 Tryz.underlying79 info_clBy rfl (by omega) mv ((k.s.parts.take j).map (·.mem)) rfl P3.m X2.heap.size qm #[.slice Am qm.length cm] 50 rfl hb3 rfl (by simp [Value.oneCell']) hLm (by omega) (Nat.le_trans hwV ((((a1.of_non : Chg SS V (V.alloc (.cells #[.int .i64 pb, .int .i64 psz] 81))).trans_same (hg2.mono (fun x e => by rw [hSS]; exact .inl e))).then_non a3)).size) (fun _ _ _ hg h => h.keep hg (fun b e e2 => by have e3 : b < w.heap.size := e; have := (HPV.m.ge e2).1; omega)) ⟨_, rfl, HQv.out.keep ((((a1.of_non : Chg SS V (V.alloc (.cells #[.int .i64 pb, .int .i64 psz] 81))).trans_same (hg2.mono (fun x e => by rw [hSS]; exact .inl e))).then_non a3)) hSup, hql⟩ ?_
     intro mv2 X4 ho4 hg4 hv4
     have P4 := P3.addM ho4 hg4 hv4
     refine hK.out _ _ (((((a1.of_non : Chg SS V (V.alloc (.cells #[.int .i64 pb, .int .i64 psz] 81))).trans_same (hg2.mono (fun x e => by rw [hSS]; exact .inl e))).then_non a3).trans_same (hg4.mono (fun x e => by rw [hSS]; exact .inr e)))) (fun _ => ?_)
     clear hK K
     try simp only [Act.put, sA, sB, sC]
     refine hp 17 3 (lv2) rfl (((((a1.of_non : Chg SS V (V.alloc (.cells #[.int .i64 pb, .int .i64 psz] 81))).trans_same (hg2.mono (fun x e => by rw [hSS]; exact .inl e))).then_non a3).trans_same (hg4.mono (fun x e => by rw [hSS]; exact .inr e)))) ?_
     refine hp 18 4 (mv2) rfl (((((a1.of_non : Chg SS V (V.alloc (.cells #[.int .i64 pb, .int .i64 psz] 81))).trans_same (hg2.mono (fun x e => by rw [hSS]; exact .inl e))).then_non a3).trans_same (hg4.mono (fun x e => by rw [hSS]; exact .inr e)))) ?_
     refine wpAnyH_done (by kernel_rfl) ?_ _
     have HG9 : Hid (Chg Non w X4) := Lib.hid (HGV.out.then_new (((((a1.of_non : Chg SS V (V.alloc (.cells #[.int .i64 pb, .int .i64 psz] 81))).trans_same (hg2.mono (fun x e => by rw [hSS]; exact .inl e))).then_non a3).trans_same (hg4.mono (fun x e => by rw [hSS]; exact .inr e)))) (fun x e => hSge x e))
     have HP9 := Lib.hid (P4)
     clear f5 fm
     go_wp2_with fail
     exact ⟨⟨lv2, mv2, _, _, .int .i64 ((j : Int) + 1), ⟨j + 1, lv2, mv2, by omega, rfl, rfl, by simp, Lib.hid (by rw [HS1.out]; exact HP9.out.l), Lib.hid (by rw [HS2.out]; exact HP9.out.m), Lib.hid HP9.out.d, HG9⟩, rfl, rfl, rfl, rfl, rfl⟩, by simp [intOf]; omega⟩
    ·intro K hK
     go_simp
     have a2 : Chg Non (V.alloc (.cells #[.int .i64 pb, .int .i64 psz] 81)) ((V.alloc (.cells #[.int .i64 pb, .int .i64 psz] 81)).alloc (.cells #[.slice Am qm.length cm] 50)) := (Chg.refl Non (V.alloc (.cells #[.int .i64 pb, .int .i64 psz] 81))).alloc _
     have hb2 := heap_alloc_new (V.alloc (.cells #[.int .i64 pb, .int .i64 psz] 81)) (.cells #[.slice Am qm.length cm] 50)
     have P2 := P1.non a2
     have hb1' := blk_keep hb1 a2 (fun e => e)
     rw [show (V.alloc (.cells #[.int .i64 pb, .int .i64 psz] 81)).heap.size = V.heap.size + 1 by simp] at hb2
     refine hK.out _ _ (((a1.of_non : Chg SS V (V.alloc (.cells #[.int .i64 pb, .int .i64 psz] 81))).then_non a2)) (fun _ => ?_)
     clear hK K
     try simp only [Act.put, sA, sB, sC]
     refine h_one 4 (by kernel_rfl) rfl (by kernel_rfl) ?_
     intro K hK
     refine wp_snocL rgV (.tmp 22) (.tmp 25) 134 rfl w.heap.size 81 _ 2 16 Tryz.underlying134 info_rg rfl (by omega) lv ((k.c.ps.take j).map rgOf) rfl P2.l V.heap.size (⟨pb, psz⟩ : Rg) #[.int .i64 pb, .int .i64 psz] 81 rfl hb1' rfl (by simp [Value.oneCell']) hLl (by omega) (Nat.le_trans hwV (((a1.of_non : Chg SS V (V.alloc (.cells #[.int .i64 pb, .int .i64 psz] 81))).then_non a2)).size) (fun _ _ _ _ h => h) rfl ?_
     intro lv2 X3 ho3 hg3 hv3
     have P3 := P2.addL ho3 hg3 hv3
     have hb2' := blk_keep hb2 hg3 (fun e => by have := (HPV.l.ge e).2; omega)
     refine hK.out _ _ ((((a1.of_non : Chg SS V (V.alloc (.cells #[.int .i64 pb, .int .i64 psz] 81))).then_non a2).trans_same (hg3.mono (fun x e => by rw [hSS]; exact .inl e)))) (fun _ => ?_)
     clear hK K
     try simp only [Act.put, sA, sB, sC]
     refine h_one 16 (by kernel_rfl) rfl (by kernel_rfl) ?_
     intro K hK
     refine wp_snocL (msgV (Upto w.heap.size)) (.tmp 27) (.tmp 37) 79 rfl w.heap.size 50 _ 1 24 Tryz.underlying79 info_clBy rfl (by omega) mv ((k.s.parts.take j).map (·.mem)) rfl P3.m (V.heap.size + 1) qm #[.slice Am qm.length cm] 50 rfl hb2' rfl (by simp [Value.oneCell']) hLm (by omega) (Nat.le_trans hwV ((((a1.of_non : Chg SS V (V.alloc (.cells #[.int .i64 pb, .int .i64 psz] 81))).then_non a2).trans_same (hg3.mono (fun x e => by rw [hSS]; exact .inl e)))).size) (fun _ _ _ hg h => h.keep hg (fun b e e2 => by have e3 : b < w.heap.size := e; have := (HPV.m.ge e2).1; omega)) ⟨_, rfl, HQv.out.keep ((((a1.of_non : Chg SS V (V.alloc (.cells #[.int .i64 pb, .int .i64 psz] 81))).then_non a2).trans_same (hg3.mono (fun x e => by rw [hSS]; exact .inl e)))) hSup, hql⟩ ?_
     intro mv2 X4 ho4 hg4 hv4
     have P4 := P3.addM ho4 hg4 hv4
     refine hK.out _ _ (((((a1.of_non : Chg SS V (V.alloc (.cells #[.int .i64 pb, .int .i64 psz] 81))).then_non a2).trans_same (hg3.mono (fun x e => by rw [hSS]; exact .inl e))).trans_same (hg4.mono (fun x e => by rw [hSS]; exact .inr e)))) (fun _ => ?_)
     clear hK K
     try simp only [Act.put, sA, sB, sC]
     refine hp 17 3 (lv2) rfl (((((a1.of_non : Chg SS V (V.alloc (.cells #[.int .i64 pb, .int .i64 psz] 81))).then_non a2).trans_same (hg3.mono (fun x e => by rw [hSS]; exact .inl e))).trans_same (hg4.mono (fun x e => by rw [hSS]; exact .inr e)))) ?_
     refine hp 18 4 (mv2) rfl (((((a1.of_non : Chg SS V (V.alloc (.cells #[.int .i64 pb, .int .i64 psz] 81))).then_non a2).trans_same (hg3.mono (fun x e => by rw [hSS]; exact .inl e))).trans_same (hg4.mono (fun x e => by rw [hSS]; exact .inr e)))) ?_
     refine wpAnyH_done (by kernel_rfl) ?_ _
     have HG9 : Hid (Chg Non w X4) := Lib.hid (HGV.out.then_new (((((a1.of_non : Chg SS V (V.alloc (.cells #[.int .i64 pb, .int .i64 psz] 81))).then_non a2).trans_same (hg3.mono (fun x e => by rw [hSS]; exact .inl e))).trans_same (hg4.mono (fun x e => by rw [hSS]; exact .inr e)))) (fun x e => hSge x e))
     have HP9 := Lib.hid (P4)
     clear f5 fm
     go_wp2_with fail
     exact ⟨⟨lv2, mv2, _, _, .int .i64 ((j : Int) + 1), ⟨j + 1, lv2, mv2, by omega, rfl, rfl, by simp, Lib.hid (by rw [HS1.out]; exact HP9.out.l), Lib.hid (by rw [HS2.out]; exact HP9.out.m), Lib.hid HP9.out.d, HG9⟩, rfl, rfl, rfl, rfl, rfl⟩, by simp [intOf]; omega⟩
   ·intro K hK
    go_simp
    have a1 : Chg Non V (V.alloc (.cells #[.slice Am qm.length cm] 50)) := (Chg.refl Non V).alloc _
    have hb1 := heap_alloc_new V (.cells #[.slice Am qm.length cm] 50)
    have P1 := HPV.non a1
    refine hK.out _ _ ((a1.of_non : Chg SS V (V.alloc (.cells #[.slice Am qm.length cm] 50)))) (fun _ => ?_)
    clear hK K
    try simp only [Act.put, sA, sB, sC]
    refine h_one 3 (by kernel_rfl) rfl (by kernel_rfl) ?_
    intro K hK
    go_simp
    have a2 : Chg Non (V.alloc (.cells #[.slice Am qm.length cm] 50)) ((V.alloc (.cells #[.slice Am qm.length cm] 50)).alloc (.cells #[.int .i64 pb, .int .i64 psz] 81)) := (Chg.refl Non (V.alloc (.cells #[.slice Am qm.length cm] 50))).alloc _
    have hb2 := heap_alloc_new (V.alloc (.cells #[.slice Am qm.length cm] 50)) (.cells #[.int .i64 pb, .int .i64 psz] 81)
    have P2 := P1.non a2
    have hb1' := blk_keep hb1 a2 (fun e => e)
    rw [show (V.alloc (.cells #[.slice Am qm.length cm] 50)).heap.size = V.heap.size + 1 by simp] at hb2
    refine hK.out _ _ (((a1.of_non : Chg SS V (V.alloc (.cells #[.slice Am qm.length cm] 50))).then_non a2)) (fun _ => ?_)
    clear hK K
    try simp only [Act.put, sA, sB, sC]
    refine h_one 4 (by kernel_rfl) rfl (by kernel_rfl) ?_
    intro K hK
    refine wp_snocL rgV (.tmp 22) (.tmp 25) 134 rfl w.heap.size 81 _ 2 16 Tryz.underlying134 info_rg rfl (by omega) lv ((k.c.ps.take j).map rgOf) rfl P2.l (V.heap.size + 1) (⟨pb, psz⟩ : Rg) #[.int .i64 pb, .int .i64 psz] 81 rfl hb2 rfl (by simp [Value.oneCell']) hLl (by omega) (Nat.le_trans hwV (((a1.of_non : Chg SS V (V.alloc (.cells #[.slice Am qm.length cm] 50))).then_non a2)).size) (fun _ _ _ _ h => h) rfl ?_
    intro lv2 X3 ho3 hg3 hv3
    have P3 := P2.addL ho3 hg3 hv3
    have hb1x := blk_keep hb1' hg3 (fun e => by have := (HPV.l.ge e).2; omega)
    refine hK.out _ _ ((((a1.of_non : Chg SS V (V.alloc (.cells #[.slice Am qm.length cm] 50))).then_non a2).trans_same (hg3.mono (fun x e => by rw [hSS]; exact .inl e)))) (fun _ => ?_)
    clear hK K
    try simp only [Act.put, sA, sB, sC]
    refine h_one 16 (by kernel_rfl) rfl (by kernel_rfl) ?_
    intro K hK
    refine wp_snocL (msgV (Upto w.heap.size)) (.tmp 27) (.tmp 37) 79 rfl w.heap.size 50 _ 1 24 Tryz.underlying79 info_clBy rfl (by omega) mv ((k.s.parts.take j).map (·.mem)) rfl P3.m V.heap.size qm #[.slice Am qm.length cm] 50 rfl hb1x rfl (by simp [Value.oneCell']) hLm (by omega) (Nat.le_trans hwV ((((a1.of_non : Chg SS V (V.alloc (.cells #[.slice Am qm.length cm] 50))).then_non a2).trans_same (hg3.mono (fun x e => by rw [hSS]; exact .inl e)))).size) (fun _ _ _ hg h => h.keep hg (fun b e e2 => by have e3 : b < w.heap.size := e; have := (HPV.m.ge e2).1; omega)) ⟨_, rfl, HQv.out.keep ((((a1.of_non : Chg SS V (V.alloc (.cells #[.slice Am qm.length cm] 50))).then_non a2).trans_same (hg3.mono (fun x e => by rw [hSS]; exact .inl e)))) hSup, hql⟩ ?_
    intro mv2 X4 ho4 hg4 hv4
    have P4 := P3.addM ho4 hg4 hv4
    refine hK.out _ _ (((((a1.of_non : Chg SS V (V.alloc (.cells #[.slice Am qm.length cm] 50))).then_non a2).trans_same (hg3.mono (fun x e => by rw [hSS]; exact .inl e))).trans_same (hg4.mono (fun x e => by rw [hSS]; exact .inr e)))) (fun _ => ?_)
    clear hK K
    try simp only [Act.put, sA, sB, sC]
    refine hp 17 3 (lv2) rfl (((((a1.of_non : Chg SS V (V.alloc (.cells #[.slice Am qm.length cm] 50))).then_non a2).trans_same (hg3.mono (fun x e => by rw [hSS]; exact .inl e))).trans_same (hg4.mono (fun x e => by rw [hSS]; exact .inr e)))) ?_
    refine hp 18 4 (mv2) rfl (((((a1.of_non : Chg SS V (V.alloc (.cells #[.slice Am qm.length cm] 50))).then_non a2).trans_same (hg3.mono (fun x e => by rw [hSS]; exact .inl e))).trans_same (hg4.mono (fun x e => by rw [hSS]; exact .inr e)))) ?_
    refine wpAnyH_done (by kernel_rfl) ?_ _
    have HG9 : Hid (Chg Non w X4) := Lib.hid (HGV.out.then_new (((((a1.of_non : Chg SS V (V.alloc (.cells #[.slice Am qm.length cm] 50))).then_non a2).trans_same (hg3.mono (fun x e => by rw [hSS]; exact .inl e))).trans_same (hg4.mono (fun x e => by rw [hSS]; exact .inr e)))) (fun x e => hSge x e))
    have HP9 := Lib.hid (P4)
    clear f5 fm
    go_wp2_with fail
    exact ⟨⟨lv2, mv2, _, _, .int .i64 ((j : Int) + 1), ⟨j + 1, lv2, mv2, by omega, rfl, rfl, by simp, Lib.hid (by rw [HS1.out]; exact HP9.out.l), Lib.hid (by rw [HS2.out]; exact HP9.out.m), Lib.hid HP9.out.d, HG9⟩, rfl, rfl, rfl, rfl, rfl⟩, by simp [intOf]; omega⟩
  ·obtain rfl : n = j := by omega
   have hltd : decide ((n : Int) < (n : Int)) = false := by simp
   have h1 : (k.c.ps.take n).map rgOf = k.c.ps.map rgOf := by rw [List.take_of_length_le (by rw [HNn.out.1]; exact Nat.le_refl _)]
   have h2 : (k.s.parts.take n).map (·.mem) = k.s.parts.map (·.mem) := by rw [List.take_of_length_le (by rw [HNn.out.2]; exact Nat.le_refl _)]
   rw [h1] at HL
   rw [h2] at HM
   obtain ⟨Al, cl, el, hl1, hl2, hl3⟩ := HL.out.rd
   obtain ⟨Am, cm, em, hm1, hm3, hm4⟩ := HM.out.rd
   have hPh := mphys_ok _ _ _ Al Am (k.c.ps.map rgOf) (k.s.parts.map (·.mem)) cl cm wr hl3 hm4 hl1 hl2 hm1 hm3 (by rw [List.length_map, List.length_map, HNn.out.1, HNn.out.2]) (fun i a m ha hm => by
     rw [List.getElem?_map] at ha hm
     obtain ⟨p0, hp0, rfl⟩ := Option.map_eq_some_iff.1 ha
     obtain ⟨q0, hq0, rfl⟩ := Option.map_eq_some_iff.1 hm
     exact HMay.out i p0 q0 hp0 hq0) hall
   rw [← el, ← em] at hPh
   have HPh := Lib.hid hPh
   clear h1 h2 hl1 hl2 hl3 hm1 hm3 hm4 el em hPh hall
   go_wp2_with fail
   refine HPh.out.mono ?_
   rintro e u2 ⟨v, rfl, hbv, hg⟩
   have HV := Lib.hid (hbv.mono (fun b e => Nat.le_trans HG.out.size e) : BytesV (From w.heap.size) u2 _ v)
   have HG2 := Lib.hid (HG.out.then_non hg)
   clear hbv hg
   go_wp2_with fail
   go_ret
   exact ⟨_, rfl, HV.out, HG2.out⟩
end
section
open Go.RowKit
set_option maxRecDepth 100000 in
theorem cq1_ok (q : Qu) (v : Value) (id g : Nat) (w : World) (hid : id < 4294967296) (hg : w.cell? ⟨g, 0, none⟩ = some (.int .u32 (id : Nat))) :
  Calls Tryz.prog 277 #[.agg (q.L v).toArray, .pointer (some ⟨g, 0, none⟩)] w fun e w' => e = .returned (.bool (qidP id q)) ∧ Chg Non w w' := by
 obtain ⟨⟨i, s, d, cap, sz⟩, ms⟩ := q
 have hlt := lt_of_cell hg
 have HE : Hid (qidP id ⟨⟨i, s, d, cap, sz⟩, ms⟩ = decide (i = (id : Int))) := Lib.hid rfl
 simp only at hlt
 show Calls _ _ #[.agg #[.int .i64 i, .int .i64 s, .int .i64 d, .int .i64 cap, .int .i64 sz, v], .pointer (some ⟨g, 0, none⟩)] _ _
 go_enter Tryz.func277, Tryz.ntmps277
 go_wp2_with fail
 go_ret
 refine ⟨ret_b (HE.out.trans ?_).symm, (Chg.refl Non w).alloc _⟩
 rw [Bool.eq_iff_iff]
 simp
set_option maxRecDepth 100000 in
theorem cQueue_ok (B : Nat) (W : World) (g : Nat) (p : Pt) (wl : Wld) (y : Bool) (m vq vi : Value) (id : Nat) (hid : id < 4294967296) (h : CalX B W g p wl y m vq vi) :
  Calls Tryz.prog 270 #[.pointer (some ⟨g, 0, none⟩), .int .u32 (id : Nat)] W fun e W' => e = .returned (.int .i64 (idxOf (qidP id) wl.qs)) ∧ Chg Non W W' := by
 obtain ⟨A, c, rfl, hc, hcm, hr⟩ := h.qs.rd
 have HI := Lib.hid (fun W' (hg : Chg Non W W') g' (hgc : ∀ W2, Chg Non W' W2 → W2.cell? ⟨g', 0, none⟩ = some (.int .u32 (id : Nat))) => idxQueue _ _ quV_non (qidP id) (.pointer (some ⟨g', 0, none⟩)) A wl.qs c W' (hr.non hg (fun a vs h => quV_non _ _ _ _ hg h)) (by
   rintro W2 a vs hg2 ha ⟨v, rfl, _⟩
   exact cq1_ok a v id g' W2 hid (hgc W2 hg2)) hc hcm)
 have c17 := (h.non ((Chg.refl Non W).alloc (.cells #[.int .u32 (id : Nat)] 66))).chi 3 (u := .slice A wl.qs.length c) rfl
 clear h hr
 go_enter Tryz.func270, Tryz.ntmps270
 go_wp2_with fail
 refine (HI.out _ ((Chg.refl Non W).alloc _) W.heap.size (fun W2 hg2 => blk_cell (blk_call hg2) 0 rfl)).mono ?_
 rintro e u ⟨rfl, hg⟩
 have HG := Lib.hid (((Chg.refl Non W).alloc _).then_non hg)
 clear hg
 go_wp2_with fail
 go_ret
 exact ⟨rfl, HG.out⟩
end
section
open Go.RowKit
theorem low32_eq (n : Int) : ((low32 n : Nat) : Int) = n % 4294967296 := by unfold low32; omega
theorem wrap_low32 (n : Int) : IntKind.u32.wrap n = ((low32 n : Nat) : Int) := by rw [low32_eq]; rfl
theorem low32_lt (n : Int) : low32 n < 4294967296 := by unfold low32; omega
set_option maxRecDepth 100000 in
theorem cNow_ok (B : Nat) (W : World) (g : Nat) (p : Pt) (wl : Wld) (y : Bool) (m vq vi : Value) (hf : I64 wl.frames) (ht : I64 wl.tick) (h : CalX B W g p wl y m vq vi) :
  Calls Tryz.prog 261 #[.pointer (some ⟨g, 0, none⟩)] W (CalP B g ((p.set 0 (low32 wl.frames)).set 1 (low32 wl.tick)) wl y true W) := by
 have hX := h.non ((Chg.refl Non W).drew)
 have HG : Hid (Chg (From B) W W.drew) := Lib.hid ((Chg.refl (From B) W).drew)
 clear h
 have hB := hX.hB
 go_enter Tryz.func261, Tryz.ntmps261
 go_wp2_with fail
 have c1 : World.cell? W.drew ⟨g, 14, none⟩ = some (.int .i64 wl.frames) := hX.chi 0 rfl
 have c2 : World.cell? W.drew ⟨g, 15, none⟩ = some (.int .i64 wl.tick) := hX.chi 1 rfl
 refine wp_region_held_drew (S := fun V => V.cell? ⟨g, 14, none⟩ = some (.int .i64 wl.frames) ∧ V.cell? ⟨g, 15, none⟩ = some (.int .i64 wl.tick)) (by kernel_rfl) ⟨c1, c2⟩ (fun hHeld => ?_)
 clear hHeld
 have r3 : World.cell? W.drew ⟨g, 3, none⟩ = some (.int .u32 (p.g 0 : Nat)) := hX.creg 0 (by omega)
 have z3 := hX.free 3
 have HX1 : Hid (CalX B (W.drew.setCell ⟨g, 3, none⟩ (.int .u32 (low32 wl.frames : Nat))) g (p.set 0 (low32 wl.frames)) wl y m vq vi) := Lib.hid (hX.setR 0 _ (by omega) (low32_lt _))
 have HG1 : Hid (Chg (From B) W (W.drew.setCell ⟨g, 3, none⟩ (.int .u32 (low32 wl.frames : Nat)))) := Lib.hid (HG.out.trans_same (chg_own hB))
 clear hX
 generalize W.drew = V at c1 c2 r3 z3 HX1 HG1 ⊢
 have d1 : World.cell? (V.setCell ⟨g, 3, none⟩ (.int .u32 (low32 wl.frames : Nat))) ⟨g, 14, none⟩ = some (.int .i64 wl.frames) := HX1.out.chi 0 rfl
 have d2 : World.cell? (V.setCell ⟨g, 3, none⟩ (.int .u32 (low32 wl.frames : Nat))) ⟨g, 15, none⟩ = some (.int .i64 wl.tick) := HX1.out.chi 1 rfl
 have r4 : World.cell? (V.setCell ⟨g, 3, none⟩ (.int .u32 (low32 wl.frames : Nat))) ⟨g, 4, none⟩ = some (.int .u32 ((p.set 0 (low32 wl.frames)).g 1 : Nat)) := HX1.out.creg 1 (by omega)
 have z4 := HX1.out.free 4
 have HX2 : Hid (CalX B ((V.setCell ⟨g, 3, none⟩ (.int .u32 (low32 wl.frames : Nat))).setCell ⟨g, 4, none⟩ (.int .u32 (low32 wl.tick : Nat))) g ((p.set 0 (low32 wl.frames)).set 1 (low32 wl.tick)) wl y m vq vi) := Lib.hid (HX1.out.setR 1 _ (by omega) (low32_lt _))
 have HG2 : Hid (Chg (From B) W ((V.setCell ⟨g, 3, none⟩ (.int .u32 (low32 wl.frames : Nat))).setCell ⟨g, 4, none⟩ (.int .u32 (low32 wl.tick : Nat)))) := Lib.hid (HG1.out.trans_same (chg_own hB))
 have e1 := HX2.out.chi 0 rfl
 have e2 := HX2.out.chi 1 rfl
 refine hp 0 3 (.pointer (some ⟨g, 0, none⟩)) rfl ⟨c1, c2⟩ ?_
 refine hp 1 4 (.pointer (some ⟨g, 0, none⟩)) rfl ⟨c1, c2⟩ ?_
 refine hp 2 5 (.pointer (some ⟨g, 0, none⟩)) rfl ⟨c1, c2⟩ ?_
 refine hp 3 6 (.pointer (some ⟨g, 0, none⟩)) rfl ⟨c1, c2⟩ ?_
 refine hp 4 7 (.pointer (some ⟨g, 14, none⟩)) rfl ⟨c1, c2⟩ ?_
 refine hp 5 8 (.pointer (some ⟨g, 14, none⟩)) rfl ⟨c1, c2⟩ ?_
 refine hp 6 9 (.int .i64 wl.frames) rfl ⟨c1, c2⟩ ?_ (he := (fun W hW => by obtain ⟨q1, q2⟩ := hW; go_simp))
 refine hp 7 10 (.int .u32 (low32 wl.frames : Nat)) rfl ⟨c1, c2⟩ ?_ (he := (fun W hW => by go_simp; exact wrap_low32 _))
 refine hp 8 11 (.pointer (some ⟨g, 0, none⟩)) rfl ⟨c1, c2⟩ ?_
 refine hp 9 12 (.pointer (some ⟨g, 0, none⟩)) rfl ⟨c1, c2⟩ ?_
 refine hp 10 13 (.pointer (some ⟨g, 14, none⟩)) rfl ⟨c1, c2⟩ ?_
 refine hp 11 14 (.pointer (some ⟨g, 15, none⟩)) rfl ⟨c1, c2⟩ ?_
 refine hp 12 15 (.int .i64 wl.tick) rfl ⟨c1, c2⟩ ?_ (he := (fun W hW => by obtain ⟨q1, q2⟩ := hW; go_simp))
 refine hp 13 16 (.int .u32 (low32 wl.tick : Nat)) rfl ⟨c1, c2⟩ ?_ (he := (fun W hW => by go_simp; exact wrap_low32 _))
 refine hp 14 17 (.pointer (some ⟨g, 0, none⟩)) rfl ⟨c1, c2⟩ ?_
 refine hp 15 18 (.pointer (some ⟨g, 0, none⟩)) rfl ⟨c1, c2⟩ ?_
 refine hp 16 19 (.pointer (some ⟨g, 3, none⟩)) rfl ⟨c1, c2⟩ ?_
 refine hp 19 21 (.pointer (some ⟨g, 0, none⟩)) rfl ⟨c1, c2⟩ ?_
 refine hp 20 22 (.pointer (some ⟨g, 0, none⟩)) rfl ⟨c1, c2⟩ ?_
 refine hp 21 23 (.pointer (some ⟨g, 3, none⟩)) rfl ⟨c1, c2⟩ ?_
 refine hp 17 20 (.pointer (some ⟨g, 3, none⟩)) rfl ⟨c1, c2⟩ ?_
 refine h_one 18 (by kernel_rfl) rfl (by kernel_rfl) ?_
 intro K hK
 go_simp
 refine hK.out _ _ ⟨d1, d2⟩ (fun _ => ?_)
 clear hK K
 try simp only [Act.put, sA, sB, sC]
 refine hp 22 24 (.pointer (some ⟨g, 4, none⟩)) rfl ⟨d1, d2⟩ ?_
 refine h_one 23 (by kernel_rfl) rfl (by kernel_rfl) ?_
 intro K hK
 go_simp
 refine hK.out _ _ ⟨e1, e2⟩ (fun _ => ?_)
 clear hK K
 try simp only [Act.put, sA, sB, sC]
 refine wpAnyH_done (by kernel_rfl) ?_ _
 clear c1 c2 d1 d2 e1 e2 r3 r4 z3 z4
 go_wp2_with fail
 go_ret
 exact ⟨rfl, ⟨_, _, _, HX2.out⟩, HG2.out⟩
set_option maxRecDepth 100000 in
theorem cSelf_ok (B : Nat) (W : World) (g : Nat) (p : Pt) (wl : Wld) (y : Bool) (m vq vi : Value) (hv : I64 wl.ver) (h : CalX B W g p wl y m vq vi) :
  Calls Tryz.prog 263 #[.pointer (some ⟨g, 0, none⟩)] W (CalP B g ((p.set 0 (low32 p.id)).set 1 (low32 wl.ver)) wl y true W) := by
 have hX := h.non ((Chg.refl Non W).drew)
 have HG : Hid (Chg (From B) W W.drew) := Lib.hid ((Chg.refl (From B) W).drew)
 clear h
 have hB := hX.hB
 go_enter Tryz.func263, Tryz.ntmps263
 go_wp2_with fail
 have c1 : World.cell? W.drew ⟨g, 0, none⟩ = some (.int .i64 p.id) := hX.cid
 have c2 : World.cell? W.drew ⟨g, 16, none⟩ = some (.int .i64 wl.ver) := hX.chi 2 rfl
 refine wp_region_held_drew (S := fun V => V.cell? ⟨g, 0, none⟩ = some (.int .i64 p.id) ∧ V.cell? ⟨g, 16, none⟩ = some (.int .i64 wl.ver)) (by kernel_rfl) ⟨c1, c2⟩ (fun hHeld => ?_)
 clear hHeld
 have r3 : World.cell? W.drew ⟨g, 3, none⟩ = some (.int .u32 (p.g 0 : Nat)) := hX.creg 0 (by omega)
 have z3 := hX.free 3
 have HX1 : Hid (CalX B (W.drew.setCell ⟨g, 3, none⟩ (.int .u32 (low32 p.id : Nat))) g (p.set 0 (low32 p.id)) wl y m vq vi) := Lib.hid (hX.setR 0 _ (by omega) (low32_lt _))
 have HG1 : Hid (Chg (From B) W (W.drew.setCell ⟨g, 3, none⟩ (.int .u32 (low32 p.id : Nat)))) := Lib.hid (HG.out.trans_same (chg_own hB))
 clear hX
 generalize W.drew = V at c1 c2 r3 z3 HX1 HG1 ⊢
 have d1 : World.cell? (V.setCell ⟨g, 3, none⟩ (.int .u32 (low32 p.id : Nat))) ⟨g, 0, none⟩ = some (.int .i64 p.id) := HX1.out.cid
 have d2 : World.cell? (V.setCell ⟨g, 3, none⟩ (.int .u32 (low32 p.id : Nat))) ⟨g, 16, none⟩ = some (.int .i64 wl.ver) := HX1.out.chi 2 rfl
 have r4 : World.cell? (V.setCell ⟨g, 3, none⟩ (.int .u32 (low32 p.id : Nat))) ⟨g, 4, none⟩ = some (.int .u32 ((p.set 0 (low32 p.id)).g 1 : Nat)) := HX1.out.creg 1 (by omega)
 have z4 := HX1.out.free 4
 have HX2 : Hid (CalX B ((V.setCell ⟨g, 3, none⟩ (.int .u32 (low32 p.id : Nat))).setCell ⟨g, 4, none⟩ (.int .u32 (low32 wl.ver : Nat))) g ((p.set 0 (low32 p.id)).set 1 (low32 wl.ver)) wl y m vq vi) := Lib.hid (HX1.out.setR 1 _ (by omega) (low32_lt _))
 have HG2 : Hid (Chg (From B) W ((V.setCell ⟨g, 3, none⟩ (.int .u32 (low32 p.id : Nat))).setCell ⟨g, 4, none⟩ (.int .u32 (low32 wl.ver : Nat)))) := Lib.hid (HG1.out.trans_same (chg_own hB))
 have e1 := HX2.out.cid
 have e2 := HX2.out.chi 2 rfl
 refine hp 0 3 (.pointer (some ⟨g, 0, none⟩)) rfl ⟨c1, c2⟩ ?_
 refine hp 1 4 (.pointer (some ⟨g, 0, none⟩)) rfl ⟨c1, c2⟩ ?_
 refine hp 2 5 (.pointer (some ⟨g, 0, none⟩)) rfl ⟨c1, c2⟩ ?_
 refine hp 3 6 (.pointer (some ⟨g, 0, none⟩)) rfl ⟨c1, c2⟩ ?_
 refine hp 4 7 (.pointer (some ⟨g, 0, none⟩)) rfl ⟨c1, c2⟩ ?_
 refine hp 5 8 (.pointer (some ⟨g, 0, none⟩)) rfl ⟨c1, c2⟩ ?_
 refine hp 6 9 (.int .i64 p.id) rfl ⟨c1, c2⟩ ?_ (he := (fun W hW => by obtain ⟨q1, q2⟩ := hW; go_simp))
 refine hp 7 10 (.int .u32 (low32 p.id : Nat)) rfl ⟨c1, c2⟩ ?_ (he := (fun W hW => by go_simp; exact wrap_low32 _))
 refine hp 8 11 (.pointer (some ⟨g, 0, none⟩)) rfl ⟨c1, c2⟩ ?_
 refine hp 9 12 (.pointer (some ⟨g, 0, none⟩)) rfl ⟨c1, c2⟩ ?_
 refine hp 10 13 (.pointer (some ⟨g, 14, none⟩)) rfl ⟨c1, c2⟩ ?_
 refine hp 11 14 (.pointer (some ⟨g, 16, none⟩)) rfl ⟨c1, c2⟩ ?_
 refine hp 12 15 (.int .i64 wl.ver) rfl ⟨c1, c2⟩ ?_ (he := (fun W hW => by obtain ⟨q1, q2⟩ := hW; go_simp))
 refine hp 13 16 (.int .u32 (low32 wl.ver : Nat)) rfl ⟨c1, c2⟩ ?_ (he := (fun W hW => by go_simp; exact wrap_low32 _))
 refine hp 14 17 (.pointer (some ⟨g, 0, none⟩)) rfl ⟨c1, c2⟩ ?_
 refine hp 15 18 (.pointer (some ⟨g, 0, none⟩)) rfl ⟨c1, c2⟩ ?_
 refine hp 16 19 (.pointer (some ⟨g, 3, none⟩)) rfl ⟨c1, c2⟩ ?_
 refine hp 19 21 (.pointer (some ⟨g, 0, none⟩)) rfl ⟨c1, c2⟩ ?_
 refine hp 20 22 (.pointer (some ⟨g, 0, none⟩)) rfl ⟨c1, c2⟩ ?_
 refine hp 21 23 (.pointer (some ⟨g, 3, none⟩)) rfl ⟨c1, c2⟩ ?_
 refine hp 17 20 (.pointer (some ⟨g, 3, none⟩)) rfl ⟨c1, c2⟩ ?_
 refine h_one 18 (by kernel_rfl) rfl (by kernel_rfl) ?_
 intro K hK
 go_simp
 refine hK.out _ _ ⟨d1, d2⟩ (fun _ => ?_)
 clear hK K
 try simp only [Act.put, sA, sB, sC]
 refine hp 22 24 (.pointer (some ⟨g, 4, none⟩)) rfl ⟨d1, d2⟩ ?_
 refine h_one 23 (by kernel_rfl) rfl (by kernel_rfl) ?_
 intro K hK
 go_simp
 refine hK.out _ _ ⟨e1, e2⟩ (fun _ => ?_)
 clear hK K
 try simp only [Act.put, sA, sB, sC]
 refine wpAnyH_done (by kernel_rfl) ?_ _
 clear c1 c2 d1 d2 e1 e2 r3 r4 z3 z4
 go_wp2_with fail
 go_ret
 exact ⟨rfl, ⟨_, _, _, HX2.out⟩, HG2.out⟩
end
section
open Go.RowKit
theorem set_twice (p : Pt) (a b : Nat) : (p.set 0 a).set 0 b = p.set 0 b := by simp [Pt.set]
set_option maxRecDepth 100000 in
theorem cInput_ok (B : Nat) (W : World) (g : Nat) (p : Pt) (wl : Wld) (y : Bool) (m vq vi : Value) (h : CalX B W g p wl y m vq vi) :
  Calls Tryz.prog 262 #[.pointer (some ⟨g, 0, none⟩)] W (CalP B g (inputV p wl).1 (inputV p wl).2 y true W) := by
 have hB := h.hB
 obtain ⟨A, c, rfl, hc, hcm, hr, hI⟩ := h.inp
 have r3 : W.cell? ⟨g, 3, none⟩ = some (.int .u32 (p.g 0 : Nat)) := h.creg 0 (by omega)
 have z3 := h.free 3
 have c18 : W.cell? ⟨g, 18, none⟩ = some (.slice A wl.inp.length c) := h.chi 4 rfl
 have HX1 : Hid (CalX B (W.setCell ⟨g, 3, none⟩ (.int .u32 0)) g (p.set 0 0) wl y m vq (.slice A wl.inp.length c)) := Lib.hid (h.setR 0 0 (by omega) (by omega))
 have HG1 : Hid (Chg (From B) W (W.setCell ⟨g, 3, none⟩ (.int .u32 0))) := Lib.hid (chg_own hB)
 obtain ⟨fr, tk, ver, qs, inp⟩ := wl
 simp only at hc hr hI c18
 unfold maxLen at hcm
 cases inp with
 | nil =>
  clear h hr hI
  go_enter Tryz.func262, Tryz.ntmps262
  go_wp2_with fail
  go_ret
  exact ⟨rfl, ⟨_, _, _, HX1.out⟩, HG1.out⟩
 | cons x r =>
  obtain ⟨b, o, rfl, hbl, hat⟩ := hr.at_ (by simp)
  have hKb := hI b o rfl (by simp)
  have hx0 : W.cell? ⟨b, o, none⟩ = some (.int .u8 (x.toNat : Nat)) := hat 0 (by simp)
  have hbg : b ≠ g := hKb.2.1
  have hx256 : x.toNat < 256 := x.toNat_lt
  have HRd := Lib.hid hr
  clear h hr hI hat
  have hl1 : ((x :: r).length : Int) = (r.length : Int) + 1 := by simp
  rw [List.length_cons] at c18 hc HX1
  have hxb : (⟨b, o, none⟩ : Addr).block ≠ g := hbg
  have hx1 : World.cell? (W.setCell ⟨g, 3, none⟩ (.int .u32 0)) ⟨b, o, none⟩ = some (.int .u8 (x.toNat : Nat)) := (chg_set W g 3 _).cell_some hx0 hbg
  go_enter Tryz.func262, Tryz.ntmps262
  go_wp2_with fail
  have HX2 := Lib.hid (HX1.out.non ((Chg.refl Non _).drew))
  have HG2 := Lib.hid (HG1.out.drew)
  have hx2 : World.cell? (W.setCell ⟨g, 3, none⟩ (.int .u32 0)).drew ⟨b, o, none⟩ = some (.int .u8 (x.toNat : Nat)) := hx1
  refine wp_region_still_tail 14 (by kernel_rfl) (by kernel_rfl) ?_
  simp only [List.take_succ_cons, List.take_zero, List.drop_succ_cons, List.drop_zero]
  change wpStill _ _ (W.setCell ⟨g, 3, none⟩ (.int .u32 0)).drew (fun a' => wpList _ _ _ _ a' (W.setCell ⟨g, 3, none⟩ (.int .u32 0)).drew) _ _
  clear HX1 HG1 hx1 c18 r3 z3 hx0
  have HRd2 : Hid (Rd (W.setCell ⟨g, 3, none⟩ (.int .u32 0)).drew (some ⟨b, o, none⟩) (x :: r)) := Lib.hid (HRd.out.keep ((chg_set W g 3 _).drew) (fun b' o' e _ e2 => by injection e with e; injection e with e; omega))
  generalize (W.setCell ⟨g, 3, none⟩ (.int .u32 0)).drew = V at HX2 HG2 hx2 HRd2 ⊢
  have c18 : V.cell? ⟨g, 18, none⟩ = some (.slice (some ⟨b, o, none⟩) (r.length + 1) c) := HX2.out.chi 4 rfl
  have r3 : V.cell? ⟨g, 3, none⟩ = some (.int .u32 ((p.set 0 0).g 0 : Nat)) := HX2.out.creg 0 (by omega)
  have z3 := HX2.out.free 3
  have z18 := HX2.out.free 18
  have hw1 : IntKind.u32.wrap (x.toNat : Int) = (x.toNat : Int) := by show (x.toNat : Int) % 4294967296 = _; omega
  have hw2 : IntKind.u32.wrap ((x.toNat : Int) + 1) = (x.toNat : Int) + 1 := by show ((x.toNat : Int) + 1) % 4294967296 = _; omega
  iterate 14 still_step
  refine wpStill_nil ?_
  have HX3 := Lib.hid (HX2.out.setR 0 (x.toNat + 1) (by omega) (by omega))
  have hst := chg_set V g 3 (.int .u32 ((x.toNat + 1 : Nat) : Int))
  have HRd3 : Hid (Rd (V.setCell ⟨g, 3, none⟩ (.int .u32 ((x.toNat + 1 : Nat) : Int))) (some ⟨b, o, none⟩) (x :: r)) := Lib.hid (HRd2.out.keep hst (fun b' o' e _ e2 => by injection e with e; injection e with e; omega))
  have HG3 : Hid (Chg (From B) W (V.setCell ⟨g, 3, none⟩ (.int .u32 ((x.toNat + 1 : Nat) : Int)))) := Lib.hid (HG2.out.trans_same (chg_own hB))
  have HE : Hid (inputV p ⟨fr, tk, ver, qs, x :: r⟩ = (p.set 0 (x.toNat + 1), ⟨fr, tk, ver, qs, r⟩)) := Lib.hid rfl
  rw [set_twice] at HX3
  clear hst
  go_wp2_with fail
  all_goals go_ret
  all_goals rw [HE.out]
  ·exact ⟨rfl, ⟨_, _, _, HX3.out.setInp r (.slice (some ⟨b, o, none⟩) r.length 0) ⟨_, _, rfl, by omega, by unfold maxLen; omega, by
     have : r = [] := List.eq_nil_of_length_eq_zero (by omega)
     rw [this]; exact Rd.nil _ _, fun b' o' e _ => by injection e with e; injection e with e; subst e; exact hKb⟩⟩, HG3.out.trans_same (chg_own hB)⟩
  ·exact ⟨rfl, ⟨_, _, _, HX3.out.setInp r (.slice (some ⟨b, o + 1, none⟩) r.length (c - 1)) ⟨_, _, rfl, by omega, by unfold maxLen; omega, HRd3.out.drop 1, fun b' o' e _ => by injection e with e; injection e with e; subst e; exact hKb⟩⟩, HG3.out.trans_same (chg_own hB)⟩
end
end Go.Proofs.YtmnaleaghfbclaaGreatDoor
