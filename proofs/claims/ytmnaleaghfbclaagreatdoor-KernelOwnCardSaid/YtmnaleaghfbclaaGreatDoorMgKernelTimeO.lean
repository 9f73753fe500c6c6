/- KernelTime, part 15 of 28: contracts of the functions that it reaches, and the laws that they need, merged and shortened (from my texts XSchAt, XTickP, XLeads, XApartP, XApartQ, XOwnP, XVmM, XVmN, XVmO, XVmR, XVmS). -/
import Derived.Test.YtmnaleaghfbclaaGreatDoorMgKernelTimeA
import Derived.Test.YtmnaleaghfbclaaGreatDoorMgKernelTimeE
import Derived.Test.YtmnaleaghfbclaaGreatDoorMgKernelTimeF
import Derived.Test.YtmnaleaghfbclaaGreatDoorMgKernelTimeJ
import Derived.Test.YtmnaleaghfbclaaGreatDoorMgKernelTimeK
import Derived.Test.YtmnaleaghfbclaaGreatDoorMgKernelTimeN
namespace Go.Proofs.YtmnaleaghfbclaaGreatDoor
set_option linter.unusedVariables false
set_option linter.unusedSimpArgs false
set_option maxHeartbeats 8000000
section
open Go.RowKit
structure SlotAt (ws : List Win) (tick : Int) (k : Nat) (a : Win) : Prop where
 at_ : ws[k]? = some a
 lo : wsum (ws.take k) ≤ tick
 hi : tick < wsum (ws.take k) + a.len
def AtP (ws : List Win) (tick : Int) (w : World) (e : Ending) (w' : World) : Prop :=
 ∃ k a, SlotAt ws tick k a ∧ e = .returned (.tuple #[.agg #[.int .i64 (k : Int), .int .i64 a.part, .int .i64 (wsum (ws.take k)), .int .i64 (wsum (ws.take k) + a.len - tick)], .int .i64 0]) ∧ Chg Non w w'
def AtInv (ws : List Win) (w : World) (g : Nat) (k : Nat) (wr : World) : Prop :=
 ∃ a0 a1 : Int, wr.heap[g]? = some (.cells #[.int .i64 a0, .int .i64 a1, .int .i64 (wsum (ws.take k)), .int .i64 0] 88 (0, 0)) ∧ wr.heap[w.heap.size]? = some (.cells #[.int .i64 0, .int .i64 0, .int .i64 0, .int .i64 0] 88 (0, 0)) ∧ Chg Non w wr ∧ w.heap.size < g
theorem r5_setI {w : World} {g i : Nat} {cs : Array Value} {t : TypeId} {fr : Nat × Nat} (u : Value) (h : w.heap[g]? = some (.cells cs t fr)) : (w.setCell ⟨g, i, none⟩ u).heap[g]? = some (.cells (cs.setIfInBounds i u) t fr) := by
 have hlt := (Array.getElem?_eq_some_iff.1 h).1
 have h' : w.heap[g] = .cells cs t fr := by simpa [Array.getElem?_eq_getElem hlt] using h
 show (w.heap.modify g _)[g]? = _
 rw [Array.getElem?_eq_getElem (by simpa using hlt), Array.getElem_modify_self, h']
 rfl
set_option maxRecDepth 100000 in
theorem schAt_ok (I : Nat → Prop) (A : Option Addr) (ws : List Win) (c : Nat) (tick : Int) (w : World) (hr : RdL winV I 2 w A ws) (hc : ws.length ≤ c) (hm : c ≤ maxLen) (hmay : schMay ws = true) (h0 : 0 ≤ tick) (h1 : tick < wsum ws) :
  Calls Tryz.prog 36 #[.slice A ws.length c, .int .i64 tick] w (AtP ws tick w) := by
 obtain ⟨hw1, hw12, hal, hsum⟩ := schMay_bd hmay
 have HF := Lib.hid (fun W (hg : Chg Non w W) => schFrame_ok I A ws c W (hr.non hg (fun _ _ h => h)) hc hm)
 have hfe : schFrame ws = wsum ws := by rw [schFrame, if_pos hmay]
 rw [hfe] at HF
 unfold maxLen at hm
 have HR := Lib.hid hr
 have HAll := Lib.hid hal
 obtain ⟨fr, hfr⟩ : ∃ fr, wsum ws = fr := ⟨_, rfl⟩
 rw [hfr] at HF hsum h1
 have HFr := Lib.hid hfr
 have d0 : decide (tick < 0) = false := by rw [decide_eq_false_iff_not]; omega
 have d1 : decide (fr ≤ tick) = false := by rw [decide_eq_false_iff_not]; omega
 clear hr hal hfr hfe hmay
 go_enter Tryz.func36, Tryz.ntmps36
 go_wp2
 go_step3
 go_wp2_with fail
 refine (HF.out _ ((Chg.refl Non w).alloc _)).mono ?_
 rintro e u ⟨rfl, hg⟩
 have HB0 := Lib.hid ((hg.block _ (by simp) (fun e => e)).trans (heap_alloc_new w _))
 have hus : w.heap.size < u.heap.size := by have := hg.size; simp at this; omega
 have HG0 := Lib.hid (((Chg.refl Non w).alloc _).then_non hg)
 clear hg
 go_wp2_with fail
 go_step3
 go_wp2_with fail
 go_loopw [20] (fun iv wr => ∃ k : Nat, k ≤ ws.length ∧ iv = .int .i64 k ∧ Hid (wsum (ws.take k) ≤ tick) ∧ Hid (AtInv ws w u.heap.size k wr)) (fun iv _ => ws.length - (intOf iv).toNat)
 case atStart => exact ⟨0, Nat.zero_le _, rfl, Lib.hid (by simpa [wsum] using h0), Lib.hid ⟨0, 0, heap_alloc_new _ _, (Below.heap_alloc u _ _ hus).trans HB0.out, HG0.out.alloc _, hus⟩⟩
 case round =>
  obtain ⟨k, hk, rfl, HLo, HI⟩ := hrel
  have hlt : k < ws.length := by
   rcases Nat.lt_or_ge k ws.length with h | h
   ·exact h
   ·exfalso
    have h2 := HLo.out
    rw [List.take_of_length_le h, HFr.out] at h2
    omega
  have hbd := wsum_bd (ws := ws) k (fun i a hi ha => HAll.out a (List.mem_of_getElem? ha))
  obtain ⟨a, ha⟩ : ∃ a, ws[k]? = some a := ⟨_, List.getElem?_eq_getElem hlt⟩
  obtain ⟨a0, a1, hi6, hi4, hig, _⟩ := HI.out
  obtain ⟨b, o, rfl, k0, k1, hbl, hi1, hi2⟩ := win_at HR.out hig ha
  have hltd : decide ((k : Int) < (ws.length : Int)) = true := by simpa using hlt
  have hk0 : (0 : Int) ≤ (k : Int) := by omega
  have hkl : (k : Int) < (ws.length : Int) := by omega
  obtain ⟨o1, o2, o3, o4⟩ := winOk_iff.1 (HAll.out a (List.mem_of_getElem? ha))
  have hlo := HLo.out
  have hsn := wsum_snoc ha
  have HSl : Hid (tick < wsum (ws.take k) + a.len → SlotAt ws tick k a) := Lib.hid (fun h => ⟨ha, hlo, h⟩)
  have HSn := Lib.hid hsn
  have hi6l := (Array.getElem?_eq_some_iff.1 hi6).1
  have hi4l := (Array.getElem?_eq_some_iff.1 hi4).1
  have h6 := Lib.hid hi6
  have h4 := Lib.hid hi4
  have HG := Lib.hid hig
  clear ha hsn hi6 hi4 hig
  obtain ⟨s, hs⟩ : ∃ s, wsum (ws.take k) = s := ⟨_, rfl⟩
  have HS := Lib.hid hs
  simp only [hs] at HSl HSn hbd hlo
  clear hs HLo
  obtain ⟨x, y⟩ := a
  simp only at k0 k1 hi1 hi2 o1 o2 o3 o4 HSl HSn
  go_wp2_with fail
  refine wp_region_held_drew (S := Chg (fun x => x = u.heap.size) (wr.alloc (.cells #[.int .i64 x, .int .i64 y] 49)).drew) (by kernel_rfl) (Chg.refl _ _) (fun hHeld => ?_)
  clear hHeld
  have q1 : (wr.alloc (.cells #[.int .i64 x, .int .i64 y] 49)).drew.cell? ⟨wr.heap.size, 1, none⟩ = some (.int .i64 y) := by
   have hb := heap_alloc_new wr (.cells #[.int .i64 x, .int .i64 y] 49)
   rw [show (wr.alloc (.cells #[.int .i64 x, .int .i64 y] 49)).drew.cell? ⟨wr.heap.size, 1, none⟩ = (wr.alloc (.cells #[.int .i64 x, .int .i64 y] 49)).cell? ⟨wr.heap.size, 1, none⟩ from rfl, cell_of_row _ _ _ _ _ _ hb]
   rfl
  have HV : Hid ((wr.alloc (.cells #[.int .i64 x, .int .i64 y] 49)).drew.heap[u.heap.size]? = some (.cells #[.int .i64 a0, .int .i64 a1, .int .i64 s, .int .i64 0] 88 (0, 0))) := Lib.hid ((Below.heap_alloc wr _ _ hi6l).trans (by rw [← HS.out]; exact h6.out))
  have HV4 : Hid ((wr.alloc (.cells #[.int .i64 x, .int .i64 y] 49)).drew.heap[w.heap.size]? = some (.cells #[.int .i64 0, .int .i64 0, .int .i64 0, .int .i64 0] 88 (0, 0))) := Lib.hid ((Below.heap_alloc wr _ _ hi4l).trans h4.out)
  have HV8 : Hid ((wr.alloc (.cells #[.int .i64 x, .int .i64 y] 49)).drew.heap[wr.heap.size]? = some (.cells #[.int .i64 x, .int .i64 y] 49 (0, 0))) := Lib.hid (heap_alloc_new _ _)
  have HGv := Lib.hid ((HG.out.alloc (.cells #[.int .i64 x, .int .i64 y] 49)).drew)
  have kf : (wr.alloc (.cells #[.int .i64 x, .int .i64 y] 49)).drew.frozen? ⟨u.heap.size, 0, none⟩ = false := frozen_of_row _ _ _ _ _ HV.out
  have kf1 : (wr.alloc (.cells #[.int .i64 x, .int .i64 y] 49)).drew.frozen? ⟨u.heap.size, 1, none⟩ = false := frozen_of_row _ _ _ _ _ HV.out
  have kc : (wr.alloc (.cells #[.int .i64 x, .int .i64 y] 49)).drew.cell? ⟨u.heap.size, 0, none⟩ = some (.int .i64 a0) := by have := cell_of_row _ u.heap.size 0 _ _ _ HV.out; exact this
  have kc1 : (wr.alloc (.cells #[.int .i64 x, .int .i64 y] 49)).drew.cell? ⟨u.heap.size, 1, none⟩ = some (.int .i64 a1) := by have := cell_of_row _ u.heap.size 1 _ _ _ HV.out; exact this
  generalize (wr.alloc (.cells #[.int .i64 x, .int .i64 y] 49)).drew = v1 at *
  refine hp 0 25 (.int .i64 (k : Int)) rfl (Chg.refl _ _) ?_
  refine hp 1 26 (.pointer (some ⟨wr.heap.size, 1, none⟩)) rfl (Chg.refl _ _) ?_
  refine hp 2 27 (.int .i64 y) rfl (Chg.refl _ _) ?_ (he := (fun W hW => by have hcell := hW.cell_some (p := ⟨wr.heap.size, 1, none⟩) q1 (by show ¬ (wr.heap.size = u.heap.size); omega); go_simp))
  refine hp 3 28 (.pointer (some ⟨u.heap.size, 0, none⟩)) rfl (Chg.refl _ _) ?_
  refine h_one 4 (by kernel_rfl) rfl (by kernel_rfl) ?_
  intro K hK
  go_simp
  refine hK.out _ _ (setAt _ _ _ _) (fun _ => ?_)
  clear hK K
  refine hp 5 29 (.pointer (some ⟨u.heap.size, 1, none⟩)) rfl (setAt _ _ _ _) ?_
  refine h_one 6 (by kernel_rfl) rfl (by kernel_rfl) ?_
  intro K hK
  go_simp
  refine hK.out _ _ ((setAt _ _ _ _).trans_same (setAt _ _ _ _)) (fun _ => ?_)
  clear hK K
  refine wpAnyH_done (by kernel_rfl) ?_ _
  have hz := r5_setI (i := 1) (.int .i64 y) (r5_setI (i := 0) (.int .i64 (k : Int)) HV.out)
  have hgz : Chg (fun x => x = u.heap.size) v1 _ := (setAt v1 u.heap.size 0 (.int .i64 (k : Int))).trans_same (setAt _ u.heap.size 1 (.int .i64 y))
  generalize ((v1.setCell ⟨u.heap.size, 0, none⟩ (.int .i64 (k : Int))).setCell ⟨u.heap.size, 1, none⟩ (.int .i64 y)) = v2 at *
  have hz4 := (hgz.block _ (Array.getElem?_eq_some_iff.1 HV4.out).1 (by omega)).trans HV4.out
  have hz8 := (hgz.block _ (Array.getElem?_eq_some_iff.1 HV8.out).1 (by omega)).trans HV8.out
  simp only [List.setIfInBounds_toArray, List.set_cons_zero, List.set_cons_succ] at hz
  have m2 : v2.cell? ⟨u.heap.size, 2, none⟩ = some (.int .i64 s) := by rw [cell_of_row _ _ _ _ _ _ hz]; rfl
  have m0 : v2.cell? ⟨u.heap.size, 0, none⟩ = some (.int .i64 (k : Int)) := by rw [cell_of_row _ _ _ _ _ _ hz]; rfl
  have m1 : v2.cell? ⟨u.heap.size, 1, none⟩ = some (.int .i64 y) := by rw [cell_of_row _ _ _ _ _ _ hz]; rfl
  have m3 : v2.cell? ⟨u.heap.size, 3, none⟩ = some (.int .i64 0) := by rw [cell_of_row _ _ _ _ _ _ hz]; rfl
  have mf : ∀ i, v2.frozen? ⟨u.heap.size, i, none⟩ = false := fun i => frozen_of_row _ _ _ _ _ hz
  have mf2 := mf 2
  have mf3 := mf 3
  have n0 : v2.cell? ⟨wr.heap.size, 0, none⟩ = some (.int .i64 x) := by rw [cell_of_row _ _ _ _ _ _ hz8]; rfl
  have r0 : v2.cell? ⟨w.heap.size, 0, none⟩ = some (.int .i64 0) := by rw [cell_of_row _ _ _ _ _ _ hz4]; rfl
  have rf0 : v2.frozen? ⟨w.heap.size, 0, none⟩ = false := frozen_of_row _ _ _ _ _ hz4
  have r1 : v2.cell? ⟨w.heap.size, 1, none⟩ = some (.int .i64 0) := by rw [cell_of_row _ _ _ _ _ _ hz4]; rfl
  have rf1 : v2.frozen? ⟨w.heap.size, 1, none⟩ = false := frozen_of_row _ _ _ _ _ hz4
  have r2 : v2.cell? ⟨w.heap.size, 2, none⟩ = some (.int .i64 0) := by rw [cell_of_row _ _ _ _ _ _ hz4]; rfl
  have rf2 : v2.frozen? ⟨w.heap.size, 2, none⟩ = false := frozen_of_row _ _ _ _ _ hz4
  have r3 : v2.cell? ⟨w.heap.size, 3, none⟩ = some (.int .i64 0) := by rw [cell_of_row _ _ _ _ _ _ hz4]; rfl
  have rf3 : v2.frozen? ⟨w.heap.size, 3, none⟩ = false := frozen_of_row _ _ _ _ _ hz4
  have HZ := Lib.hid hz
  have HZ4 := Lib.hid hz4
  have HGz := Lib.hid (HGv.out.then_new hgz (fun x e => by omega))
  clear mf hz hz4 hz8 hgz q1 kf kf1 kc kc1 k0 k1
  by_cases hin : tick < s + x
  ·have hind : decide (tick < s + x) = true := by simpa using hin
   have HSl2 := Lib.hid (HSl.out hin)
   go_wp2_with fail
   have g3 := chg_set v2 u.heap.size 3 (.int .i64 (s + x - tick))
   have b4 := blk_keep HZ4.out g3 (by omega)
   have b5 := blk_set 3 (.int .i64 (s + x - tick)) (blk_set 2 (.int .i64 s) (blk_set 1 (.int .i64 y) (blk_set 0 (.int .i64 (k : Int)) b4)))
   have hgf := HGz.out.then_new (g3.trans (((chg_set _ w.heap.size 0 (.int .i64 (k : Int))).trans_same (chg_set _ w.heap.size 1 (.int .i64 y))).trans_same ((chg_set _ w.heap.size 2 (.int .i64 s)).trans_same (chg_set _ w.heap.size 3 (.int .i64 (s + x - tick))))) (U := fun b => w.heap.size ≤ b) (fun b e => by omega) (fun b _ e => by omega)) (fun b e => e)
   exact bodyPost_ret (res_ct Tryz.results36 _ _ w.heap.size 88 _ (0, 0) _ (.int .i64 0) (by kernel_rfl) (by kernel_rfl) b5 Tryz.underlying88 rfl (by kernel_rfl)) (by kernel_rfl) ⟨k, ⟨x, y⟩, HSl2.out, by rw [HS.out]; rfl, hgf⟩
  ·have hind : decide (tick < s + x) = false := by simpa using hin
   have HLo2 : Hid (wsum (ws.take (k + 1)) ≤ tick) := Lib.hid (by rw [HSn.out]; omega)
   have HI2 : Hid (AtInv ws w u.heap.size (k + 1) (v2.setCell ⟨u.heap.size, 2, none⟩ (.int .i64 (s + x)))) := Lib.hid ⟨(k : Int), y, by rw [r5_setI _ HZ.out, HSn.out]; rfl, ((setAt v2 u.heap.size 2 (.int .i64 (s + x))).block _ (Array.getElem?_eq_some_iff.1 HZ4.out).1 (by omega)).trans HZ4.out, HGz.out.then_new (setAt v2 u.heap.size 2 (.int .i64 (s + x))) (fun x e => by omega), hus⟩
   go_wp2_with fail
   exact ⟨⟨k + 1, by omega, by simp, HLo2, HI2⟩, by simp [intOf]; omega⟩
end
section
open Go.RowKit
def slotGo : Int → List Win → Int → Int × Int
 | acc, [], tick => (acc, 0)
 | acc, a :: r, tick => if tick < acc + a.len then (acc, a.part) else slotGo (acc + a.len) r tick
def slotV (ws : List Win) (tick : Int) : Int × Int := slotGo 0 ws tick
theorem wsum_cons (a : Win) (r : List Win) : wsum (a :: r) = a.len + wsum r := by simp [wsum]
theorem wsum_ge {ws : List Win} (h : ∀ a ∈ ws, winOk a = true) : 0 ≤ wsum ws := by
 induction ws with
 | nil => simp [wsum]
 | cons a r ih =>
  rw [wsum_cons]
  have := (winOk_iff.1 (h a (List.mem_cons_self ..))).1
  have := ih (fun b hb => h b (List.mem_cons_of_mem _ hb))
  omega
theorem slotGo_at {tick : Int} {a : Win} : ∀ (ws : List Win) (acc : Int) (k : Nat), (∀ a ∈ ws, winOk a = true) → ws[k]? = some a → acc + wsum (ws.take k) ≤ tick → tick < acc + wsum (ws.take k) + a.len → slotGo acc ws tick = (acc + wsum (ws.take k), a.part)
 | [], acc, k, _, h, _, _ => by simp at h
 | b :: r, acc, 0, hall, h, h1, h2 => by
  simp only [List.getElem?_cons_zero, Option.some.injEq] at h
  subst h
  simp only [List.take_zero, wsum, List.map_nil, List.sum_nil, Int.add_zero] at h1 h2 ⊢
  rw [slotGo, if_pos h2]
 | b :: r, acc, k + 1, hall, h, h1, h2 => by
  rw [List.getElem?_cons_succ] at h
  rw [List.take_succ_cons, wsum_cons] at h1 h2 ⊢
  have hr : ∀ a ∈ r, winOk a = true := fun a ha => hall a (List.mem_cons_of_mem _ ha)
  have := wsum_ge (ws := r.take k) (fun a ha => hr a (List.mem_of_mem_take ha))
  rw [slotGo, if_neg (by omega), slotGo_at r (acc + b.len) k hr h (by omega) (by omega)]
  congr 1
  omega
theorem SlotAt.slot {ws : List Win} {tick : Int} {k : Nat} {a : Win} (h : SlotAt ws tick k a) (hall : ∀ a ∈ ws, winOk a = true) : slotV ws tick = (wsum (ws.take k), a.part) := by
 have hlo := h.lo
 have hhi := h.hi
 have := slotGo_at (tick := tick) (a := a) ws 0 k hall h.at_ (by omega) (by omega)
 rw [Int.zero_add] at this
 exact this
def updI (m : List (Int × List UInt8)) (i : Int) (v : List UInt8) : List (Int × List UInt8) := if (m.find? (fun p => p.1 == i)).isSome then m.map (fun p => if p.1 == i then (i, v) else p) else m ++ [(i, v)]
def Kn.wld (k : Kn) (p : Pt) : Wld := ⟨k.s.frames, k.tick, k.ver, k.s.queues, k.waits p.id⟩
def doesV (i : Nat) (k : Kn) : Kn :=
 match k.s.parts[i]? with
 | none => k
 | some p =>
  if p.st = 0 ∧ k.yl = false then
   if (stepV p).2.1 < 0 then { k with s := { k.s with parts := k.s.parts.set i (stepV p).1 } }
   else
    let d := doV (stepV p).2.1 (stepV p).1 (k.wld (stepV p).1)
    { k with s := { k.s with parts := k.s.parts.set i d.1, queues := d.2.1.qs }, inp := updI k.inp (stepV p).1.id d.2.1.inp, yl := d.2.2 }
  else k
def Kn.fresh (k : Kn) : Kn := if (slotV k.c.ws k.tick).1 = k.tick then { k with yl := false } else k
def Kn.turn (k : Kn) : Kn := if idxOf (idP (slotV k.c.ws k.tick).2) k.s.parts < 0 then k.fresh else doesV (idxOf (idP (slotV k.c.ws k.tick).2) k.s.parts).toNat k.fresh
def Kn.next (k : Kn) : Kn := if k.tick + 1 < wsum k.c.ws then { k with tick := k.tick + 1 } else { k with tick := 0, s := { k.s with frames := min (k.s.frames + 1) 1099511627776 } }
def Kn.ticked (k : Kn) : Kn := k.turn.next
def Kn.ends (k : Kn) : Bool := !decide (k.tick + 1 < wsum k.c.ws)
structure Kn.Good (k : Kn) : Prop where
 sch : schMay k.c.ws = true
 t0 : 0 ≤ k.tick
 t1 : k.tick < wsum k.c.ws
 f0 : 0 ≤ k.s.frames
 f1 : k.s.frames ≤ 1099511627776
 pl : k.s.parts.length ≤ 6
 ql : k.s.queues.length ≤ 8
 pm : ∀ p ∈ k.s.parts, partOk p = true
 qm : ∀ q ∈ k.s.queues, mayQ q = true
 il : ∀ x ∈ k.inp, x.2.length ≤ 64
theorem regMay_zero {n : Int} (h : regMay 0 n = true) : 16 ≤ n ∧ n ≤ 512 := by
 simp [regMay] at h
 omega
theorem partOk_mem {p : Pt} (h : partOk p = true) : 16 ≤ p.mem.length ∧ p.mem.length ≤ 512 := by
 simp [partOk] at h
 have := regMay_zero h.1.1.2
 omega
theorem partOk_of {p q : Pt} (h : partOk p = true) (hi : q.id = p.id) (hs : q.size = p.size) (hm : q.mem.length = p.mem.length) (ht : q.st ≤ 4) : partOk q = true := by
 simp only [partOk, Bool.and_eq_true, decide_eq_true_eq] at h ⊢
 rw [hi, hs, hm]
 exact ⟨h.1, by omega⟩
theorem step_id (p : Pt) : (stepV p).1.id = p.id ∧ (stepV p).1.size = p.size ∧ (stepV p).1.keep = p.keep ∧ (stepV p).1.mem.length = p.mem.length := by
 rcases step_shape p with ⟨h, _⟩ | ⟨⟨v, h⟩, _⟩ | ⟨⟨a, v, h⟩, _⟩ | ⟨⟨a, b, h1, h2, h⟩, _⟩ | ⟨h, _⟩
 ·rw [h]; exact ⟨rfl, rfl, rfl, rfl⟩
 ·rw [h]; exact ⟨rfl, rfl, rfl, rfl⟩
 ·rw [h]; exact ⟨rfl, rfl, rfl, rfl⟩
 ·rw [h]; exact ⟨rfl, rfl, rfl, put_len h2⟩
 ·rw [h]; exact ⟨rfl, rfl, rfl, rfl⟩
theorem does_st {x : Ins} {p q : Pt} (h : does x p = some q) : q.st = p.st := by
 rcases does_shape h with rfl | ⟨a, v, rfl, _⟩ | ⟨a, b, _, _, rfl, _⟩
 ·rfl
 ·rfl
 ·rfl
theorem step_st {p : Pt} (h : p.st ≤ 4) : (stepV p).1.st ≤ 4 := by
 unfold stepV
 split
 ·exact h
 ·split
  ·exact Nat.le_of_ble_eq_true rfl
  ·split
   ·split
    ·exact h
    ·split
     ·exact Nat.le_of_ble_eq_true rfl
     ·rename_i q hq
      have := does_st hq
      show q.st ≤ 4
      omega
   ·exact Nat.le_of_ble_eq_true rfl
theorem step_call {p : Pt} (h : ¬ (stepV p).2.1 < 0) : p.st = 0 ∧ (stepV p).1.st = 0 := by
 unfold stepV at h ⊢
 split at h
 ·exact absurd (show (-1 : Int) < 0 by decide) h
 ·rename_i h0
  have h0 : p.st = 0 := by omega
  split at h
  ·exact absurd (show (-1 : Int) < 0 by decide) h
  ·split at h
   ·split at h
    ·exact absurd (show (-1 : Int) < 0 by decide) h
    ·split at h
     ·exact absurd (show (-1 : Int) < 0 by decide) h
     ·rename_i _ x hf hm hj _ q hq
      rw [if_neg (by omega)]
      simp only [hf, hm, hj, if_true, hq]
      refine ⟨h0, ?_⟩
      have := does_st hq
      simpa [this] using h0
   ·exact absurd (show (-1 : Int) < 0 by decide) h
theorem partOk_step {p : Pt} (h : partOk p = true) : partOk (stepV p).1 = true := by
 obtain ⟨h1, h2, _, h4⟩ := step_id p
 have hs : p.st ≤ 4 := by simp [partOk] at h; omega
 exact partOk_of h h1 h2 h4 (step_st hs)
theorem do_id (n : Int) (p : Pt) (w : Wld) : (doV n p w).1.id = p.id ∧ (doV n p w).1.size = p.size ∧ (doV n p w).1.keep = p.keep ∧ (doV n p w).1.mem.length = p.mem.length ∧ (p.st ≤ 4 → (doV n p w).1.st ≤ 4) := by
 unfold doV
 split
 ·exact ⟨rfl, rfl, rfl, rfl, fun h => h⟩
 split
 ·split
  ·exact ⟨rfl, rfl, rfl, rfl, fun h => h⟩
  ·exact ⟨rfl, rfl, rfl, rfl, fun h => Nat.le_of_ble_eq_true rfl⟩
 split
 ·split
  ·unfold recvV
   simp only
   split
   ·exact ⟨rfl, rfl, rfl, rfl, fun h => h⟩
   ·split
    ·rename_i q hq ht
     split
     ·exact ⟨rfl, rfl, rfl, rfl, fun h => h⟩
     ·rename_i m rest hm
      refine ⟨rfl, rfl, rfl, ?_, fun h => h⟩
      show (put p.mem (p.g 1) (m.take (p.g 2))).length = _
      refine put_len ?_
      have := ((there_iff _ _ _).1 ht.1).2
      rw [List.length_take]
      omega
    ·exact ⟨rfl, rfl, rfl, rfl, fun h => h⟩
  ·exact ⟨rfl, rfl, rfl, rfl, fun h => Nat.le_of_ble_eq_true rfl⟩
 split
 ·exact ⟨rfl, rfl, rfl, rfl, fun h => h⟩
 split
 ·unfold inputV
  split
  ·exact ⟨rfl, rfl, rfl, rfl, fun h => h⟩
  ·exact ⟨rfl, rfl, rfl, rfl, fun h => h⟩
 split
 ·exact ⟨rfl, rfl, rfl, rfl, fun h => h⟩
 split
 ·exact ⟨rfl, rfl, rfl, rfl, fun h => Nat.le_of_ble_eq_true rfl⟩
 ·exact ⟨rfl, rfl, rfl, rfl, fun h => Nat.le_of_ble_eq_true rfl⟩
theorem mayQ_iff {q : Qu} : mayQ q = true ↔ q.ch.may = true ∧ (q.msgs.length : Int) ≤ q.ch.cap ∧ ∀ m ∈ q.msgs, (m.length : Int) ≤ q.ch.size := by
 simp only [mayQ, Bool.and_eq_true, decide_eq_true_eq, Bool.not_eq_true', List.any_eq_false, Int.not_lt]
 exact ⟨fun h => ⟨h.1.1, h.1.2, h.2⟩, fun h => ⟨⟨h.1, h.2.1⟩, h.2.2⟩⟩
theorem mayQ_put {q : Qu} {m : List UInt8} (h : mayQ q = true) (hm : (m.length : Int) ≤ q.ch.size) (hc : 1 ≤ q.ch.cap) : mayQ (putQ q m) = true := by
 obtain ⟨h1, h2, h3⟩ := mayQ_iff.1 h
 refine mayQ_iff.2 ⟨h1, ?_, ?_⟩
 ·show (((if (q.msgs.length : Int) = q.ch.cap then q.msgs.drop 1 else q.msgs) ++ [m]).length : Int) ≤ q.ch.cap
  split
  ·simp
   omega
  ·simp
   omega
 ·intro x hx
  have hx' : x ∈ (if (q.msgs.length : Int) = q.ch.cap then q.msgs.drop 1 else q.msgs) ++ [m] := hx
  show (x.length : Int) ≤ q.ch.size
  rcases List.mem_append.1 hx' with hx | hx
  ·split at hx
   ·exact h3 x (List.mem_of_mem_drop hx)
   ·exact h3 x hx
  ·rw [List.mem_singleton.1 hx]; exact hm
theorem cut_le (l : List UInt8) (a n : Nat) : (cut l a n).length ≤ n := by unfold cut; rw [List.length_take]; omega
theorem ch_may {c : Ch} (h : c.may = true) : 1 ≤ c.cap ∧ c.cap ≤ 4 ∧ 1 ≤ c.size ∧ c.size ≤ 16 ∧ 1 ≤ c.id ∧ c.id ≤ 8 := by
 simp [Ch.may, chMay] at h
 omega
theorem do_qs (n : Int) (p : Pt) (w : Wld) (h : ∀ q ∈ w.qs, mayQ q = true) : (doV n p w).2.1.qs.length = w.qs.length ∧ (∀ q ∈ (doV n p w).2.1.qs, mayQ q = true) ∧ (doV n p w).2.1.inp.length ≤ w.inp.length := by
 unfold doV
 split
 ·exact ⟨rfl, h, Nat.le_refl _⟩
 split
 ·split
  ·unfold sendV
   simp only
   split
   ·exact ⟨rfl, h, Nat.le_refl _⟩
   ·rename_i q hq
    split
    ·rename_i hc
     refine ⟨by simp, fun x hx => ?_, Nat.le_refl _⟩
     rcases List.mem_or_eq_of_mem_set hx with hx | hx
     ·exact h x hx
     ·rw [hx]
      have hqm : q ∈ w.qs := by
       split at hq
       ·cases hq
       ·exact List.mem_of_getElem? hq
      have hc2 := hc.2.2
      have := cut_le p.mem (p.g 1) (p.g 2)
      exact mayQ_put (h q hqm) (by omega) (ch_may (mayQ_iff.1 (h q hqm)).1).1
    ·exact ⟨rfl, h, Nat.le_refl _⟩
  ·exact ⟨rfl, h, Nat.le_refl _⟩
 split
 ·split
  ·unfold recvV
   simp only
   split
   ·exact ⟨rfl, h, Nat.le_refl _⟩
   ·rename_i q hq
    split
    ·split
     ·exact ⟨rfl, h, Nat.le_refl _⟩
     ·rename_i m rest hm
      refine ⟨by simp, fun x hx => ?_, Nat.le_refl _⟩
      rcases List.mem_or_eq_of_mem_set hx with hx | hx
      ·exact h x hx
      ·rw [hx]
       have hqm : q ∈ w.qs := by
        split at hq
        ·cases hq
        ·exact List.mem_of_getElem? hq
       obtain ⟨h1, h2, h3⟩ := mayQ_iff.1 (h q hqm)
       rw [hm] at h2 h3
       exact mayQ_iff.2 ⟨h1, by show (rest.length : Int) ≤ q.ch.cap; simp at h2; omega, fun x hx => h3 x (List.mem_cons_of_mem _ hx)⟩
    ·exact ⟨rfl, h, Nat.le_refl _⟩
  ·exact ⟨rfl, h, Nat.le_refl _⟩
 split
 ·exact ⟨rfl, h, Nat.le_refl _⟩
 split
 ·unfold inputV
  split
  ·exact ⟨rfl, h, Nat.le_refl _⟩
  ·rename_i x r hi
   refine ⟨rfl, h, ?_⟩
   show r.length ≤ _
   rw [hi]
   simp
 split
 ·exact ⟨rfl, h, Nat.le_refl _⟩
 split
 ·exact ⟨rfl, h, Nat.le_refl _⟩
 ·exact ⟨rfl, h, Nat.le_refl _⟩
theorem mem_updI {m : List (Int × List UInt8)} {i : Int} {v : List UInt8} {x : Int × List UInt8} (h : x ∈ updI m i v) : x ∈ m ∨ x = (i, v) := by
 unfold updI at h
 split at h
 ·obtain ⟨y, hy, rfl⟩ := List.mem_map.1 h
  split
  ·exact .inr rfl
  ·exact .inl hy
 ·rcases List.mem_append.1 h with h | h
  ·exact .inl h
  ·exact .inr (List.mem_singleton.1 h)
theorem waits_le {k : Kn} (h : ∀ x ∈ k.inp, x.2.length ≤ 64) (id : Int) : (k.waits id).length ≤ 64 := by
 unfold Kn.waits
 cases hf : k.inp.find? (fun p => p.1 == id) with
 | none => simp
 | some x => exact h x (List.mem_of_find?_eq_some hf)
theorem Kn.Good.does {k : Kn} (h : k.Good) (i : Nat) : (doesV i k).Good := by
 unfold doesV
 split
 ·exact h
 ·rename_i p hp
  have hpm := h.pm p (List.mem_of_getElem? hp)
  split
  ·split
   ·exact ⟨h.sch, h.t0, h.t1, h.f0, h.f1, by simpa using h.pl, h.ql, fun x hx => by
      rcases List.mem_or_eq_of_mem_set hx with hx | hx
      · exact h.pm x hx
      · rw [hx]; exact partOk_step hpm, h.qm, h.il⟩
   ·obtain ⟨q1, q2, q3⟩ := do_qs (stepV p).2.1 (stepV p).1 (k.wld (stepV p).1) h.qm
    obtain ⟨r1, r2, r3, r4, r5⟩ := do_id (stepV p).2.1 (stepV p).1 (k.wld (stepV p).1)
    refine ⟨h.sch, h.t0, h.t1, h.f0, h.f1, by simpa using h.pl, ?_, fun x hx => ?_, q2, fun x hx => ?_⟩
    ·show (doV (stepV p).2.1 (stepV p).1 (k.wld (stepV p).1)).2.1.qs.length ≤ 8
     rw [q1]
     exact h.ql
    ·rcases List.mem_or_eq_of_mem_set hx with hx | hx
     ·exact h.pm x hx
     ·rw [hx]
      have hs := partOk_step hpm
      exact partOk_of hs r1 r2 r4 (r5 (by simp [partOk] at hs; omega))
    ·rcases mem_updI hx with hx | hx
     ·exact h.il x hx
     ·rw [hx]
      exact Nat.le_trans q3 (waits_le h.il _)
  ·exact h
theorem Kn.Good.fresh {k : Kn} (h : k.Good) : k.fresh.Good := by
 unfold Kn.fresh
 split
 ·exact ⟨h.sch, h.t0, h.t1, h.f0, h.f1, h.pl, h.ql, h.pm, h.qm, h.il⟩
 ·exact h
theorem Kn.Good.turn {k : Kn} (h : k.Good) : k.turn.Good := by
 unfold Kn.turn
 split
 ·exact h.fresh
 ·exact h.fresh.does _
theorem Kn.Good.next {k : Kn} (h : k.Good) : k.next.Good := by
 unfold Kn.next
 have h0 := h.t0
 have h1 := h.t1
 have hf := h.f0
 have hf1 := h.f1
 split
 ·exact ⟨h.sch, by show 0 ≤ k.tick + 1; omega, by assumption, h.f0, h.f1, h.pl, h.ql, h.pm, h.qm, h.il⟩
 ·exact ⟨h.sch, Int.le_refl _, by show 0 < wsum k.c.ws; omega, by show 0 ≤ min (k.s.frames + 1) 1099511627776; omega, by show min (k.s.frames + 1) 1099511627776 ≤ 1099511627776; omega, h.pl, h.ql, h.pm, h.qm, h.il⟩
theorem Kn.Good.ticked {k : Kn} (h : k.Good) : k.ticked.Good := h.turn.next
theorem Kn.Good.small {k : Kn} (h : k.Good) : k.s.parts.length ≤ 1000 ∧ k.s.queues.length ≤ 1000 ∧ ∀ a ∈ k.s.queues, a.msgs.length ≤ 1000 := by
 refine ⟨by have := h.pl; omega, by have := h.ql; omega, fun a ha => ?_⟩
 obtain ⟨h1, h2, h3⟩ := mayQ_iff.1 (h.qm a ha)
 have := ch_may h1
 omega
end
section

end
section
open Go.RowKit
namespace SimL
variable {α : Type} {R : α → α → Prop} {l m : List α}
end SimL
def qGet (i : Int) (l : List Qu) : Option Qu := if i < 0 then none else l[i.toNat]?
theorem sendV_none {p : Pt} {w : Wld} (h : qGet (idxOf (qidP (p.g 0)) w.qs) w.qs = none) : sendV p w = (false, w) := by
 unfold sendV
 unfold qGet at h
 simp only [h]
theorem sendV_some {p : Pt} {w : Wld} {q : Qu} (h : qGet (idxOf (qidP (p.g 0)) w.qs) w.qs = some q) : sendV p w = if there p.mem (p.g 1) (p.g 2) = true ∧ q.ch.src = p.id ∧ (p.g 2 : Int) ≤ q.ch.size then (true, { w with qs := w.qs.set (idxOf (qidP (p.g 0)) w.qs).toNat (putQ q (cut p.mem (p.g 1) (p.g 2))) }) else (false, w) := by
 unfold sendV
 unfold qGet at h
 simp only [h]
theorem recvV_none {p : Pt} {w : Wld} (h : qGet (idxOf (qidP (p.g 0)) w.qs) w.qs = none) : recvV p w = (false, p, w) := by
 unfold recvV
 unfold qGet at h
 simp only [h]
theorem recvV_bad {p : Pt} {w : Wld} {q : Qu} (h : qGet (idxOf (qidP (p.g 0)) w.qs) w.qs = some q) (hc : ¬ (there p.mem (p.g 1) (p.g 2) = true ∧ q.ch.dst = p.id)) : recvV p w = (false, p, w) := by
 unfold recvV
 unfold qGet at h
 simp only [h, if_neg hc]
theorem recvV_empty {p : Pt} {w : Wld} {q : Qu} (h : qGet (idxOf (qidP (p.g 0)) w.qs) w.qs = some q) (hc : there p.mem (p.g 1) (p.g 2) = true ∧ q.ch.dst = p.id) (hm : q.msgs = []) : recvV p w = (true, p.set 0 0, w) := by
 unfold recvV
 unfold qGet at h
 simp only [h, if_pos hc, hm]
theorem recvV_take {p : Pt} {w : Wld} {q : Qu} {m : List UInt8} {rest : List (List UInt8)} (h : qGet (idxOf (qidP (p.g 0)) w.qs) w.qs = some q) (hc : there p.mem (p.g 1) (p.g 2) = true ∧ q.ch.dst = p.id) (hm : q.msgs = m :: rest) :
  recvV p w = (true, ({ p with mem := put p.mem (p.g 1) (m.take (p.g 2)) } : Pt).set 0 ((m.length + 1) % 4294967296), { w with qs := w.qs.set (idxOf (qidP (p.g 0)) w.qs).toNat { q with msgs := rest } }) := by
 unfold recvV
 unfold qGet at h
 simp only [h, if_pos hc, hm]
end
section
open Go.RowKit
theorem idx_at {k : Kn} {id : Int} (h : ¬ idxOf (idP id) k.s.parts < 0) : ∃ p, k.s.parts[(idxOf (idP id) k.s.parts).toNat]? = some p ∧ p.id = id := by
 have hb := idx_bd (idP id) k.s.parts
 obtain ⟨p, hp, hq⟩ := idx_get (p := idP id) (l := k.s.parts) (k := (idxOf (idP id) k.s.parts).toNat) (by omega)
 exact ⟨p, hp, by simpa [idP] using hq⟩
theorem fresh_s (k : Kn) : k.fresh.s = k.s ∧ k.fresh.c = k.c ∧ k.fresh.tick = k.tick ∧ k.fresh.inp = k.inp ∧ k.fresh.ver = k.ver := by
 unfold Kn.fresh
 split <;> exact ⟨rfl, rfl, rfl, rfl, rfl⟩
theorem does_same (k : Kn) (i : Nat) : (doesV i k).c = k.c ∧ (doesV i k).tick = k.tick := by
 unfold doesV
 split
 ·exact ⟨rfl, rfl⟩
 ·split
  ·split <;> exact ⟨rfl, rfl⟩
  ·exact ⟨rfl, rfl⟩
theorem turn_same (k : Kn) : k.turn.c = k.c ∧ k.turn.tick = k.tick := by
 obtain ⟨h1, h2, h3, h4, h5⟩ := fresh_s k
 unfold Kn.turn
 split
 ·exact ⟨h2, h3⟩
 ·exact ⟨(does_same _ _).1.trans h2, (does_same _ _).2.trans h3⟩
end
section
open Go.RowKit
end
section
open Go.RowKit
def opsC : Array Value := #[.nilFunc, .nilFunc, .nilFunc, .nilFunc, .nilFunc, .func (.func 241) #[] #[], .nilFunc, .func (.func 242) #[] #[], .func (.func 248) #[] #[], .nilFunc, .func (.func 249) #[] #[], .nilFunc, .func (.func 250) #[] #[], .nilFunc, .func (.func 251) #[] #[], .nilFunc, .func (.func 252) #[] #[], .nilFunc, .func (.func 253) #[] #[], .nilFunc, .func (.func 254) #[] #[], .nilFunc, .func (.func 255) #[] #[], .nilFunc, .func (.func 256) #[] #[], .nilFunc, .nilFunc, .func (.func 243) #[] #[], .nilFunc, .func (.func 244) #[] #[], .nilFunc, .func (.func 245) #[] #[], .nilFunc, .func (.func 246) #[] #[], .nilFunc, .nilFunc, .nilFunc, .nilFunc, .nilFunc, .nilFunc, .nilFunc, .nilFunc, .nilFunc, .func (.func 247) #[] #[]]
def opsZ : Array Value := #[.nilFunc, .nilFunc, .nilFunc, .nilFunc, .nilFunc, .nilFunc, .nilFunc, .nilFunc, .nilFunc, .nilFunc, .nilFunc, .nilFunc, .nilFunc, .nilFunc, .nilFunc, .nilFunc, .nilFunc, .nilFunc, .nilFunc, .nilFunc, .nilFunc, .nilFunc, .nilFunc, .nilFunc, .nilFunc, .nilFunc, .nilFunc, .nilFunc, .nilFunc, .nilFunc, .nilFunc, .nilFunc, .nilFunc, .nilFunc, .nilFunc, .nilFunc, .nilFunc, .nilFunc, .nilFunc, .nilFunc, .nilFunc, .nilFunc, .nilFunc, .nilFunc]
set_option maxRecDepth 100000 in
theorem ops_ok (w : World) : Calls Tryz.prog 235 #[] w fun e w' => e = .returned (.agg opsC) ∧ Chg Non w w' := by
 go_enter Tryz.func235, Tryz.ntmps235
 go_wp2_with (first
   | (refine sel none (.store _ (.tmp 0) (.tmp 17)) ?_; refine Vm_stop ?_))
 refine HoleV.mk ?_
 refine wpList_store_rowA rfl 323 (.tmp 0) (.tmp 17) rfl w.heap.size opsC rfl rfl 323 opsZ (heap_alloc_new w _) (by kernel_rfl) rfl (by simp [opsC, Value.oneCell']) ?_
 intro W hgW hbW
 have HBW := Lib.hid hbW
 have HG := Lib.hid (((Chg.refl Non w).alloc (.cells opsZ 323)).then_new hgW (fun x e => by omega))
 clear hbW hgW
 go_wp2_with fail
 exact bodyPost_ret (results_cell_row Tryz.results235 _ _ w.heap.size 323 opsC (0, 0) _ rfl HBW.out Tryz.underlying323 rfl (by kernel_rfl)) rfl ⟨rfl, HG.out⟩
end
section
open Go.RowKit
def RetStep (w : World) (q : Pt) (call er : Int) (e : Ending) (w' : World) : Prop :=
 ∃ A' c', e = .returned (.tuple #[.agg (partC q (.slice A' q.mem.length c')), .int .i64 call, .int .i64 er]) ∧ q.mem.length ≤ c' ∧ c' ≤ maxLen ∧ Own w.heap.size w' A' q.mem ∧ Chg Non w w'
structure StS (w W : World) (p : Pt) (A : Option Addr) (c : Nat) : Prop where
 pb : PartB W w.heap.size p (.slice A p.mem.length c)
 rb : W.heap[w.heap.size + 1]? = some (.cells zeroPart 69 (0, 0))
 own : Own (w.heap.size + 2) W A p.mem
 chg : Chg Non w W
 h1 : p.mem.length ≤ c
 h2 : c ≤ maxLen
theorem StS.non {w W W' : World} {p : Pt} {A : Option Addr} {c : Nat} (h : StS w W p A c) (hg : Chg Non W W') : StS w W' p A c :=
 ⟨h.pb.non hg, blockN hg h.rb, h.own.non hg, h.chg.then_non hg, h.h1, h.h2⟩
theorem StS.at {w W W' : World} {p q : Pt} {A : Option Addr} {c : Nat} (h : StS w W p A c) (hg : Chg (fun k => k = w.heap.size) W W') (hq : PartB W' w.heap.size q (.slice A p.mem.length c)) (hm : q.mem = p.mem) : StS w W' q A c :=
 ⟨by rw [hm]; exact hq, blockS h.rb hg (by omega), by rw [hm]; exact h.own.keep hg (fun b o e1 e2 e3 e4 => by omega), h.chg.then_new hg (fun x e => by omega), by rw [hm]; exact h.h1, h.h2⟩
theorem StS.mem {w W W' : World} {p : Pt} {A A2 : Option Addr} {c c2 : Nat} {l : List UInt8} (h : StS w W p A c) (hg : Chg (fun k => k = w.heap.size) W W') (hq : PartB W' w.heap.size p (.slice A2 l.length c2)) (h1 : l.length ≤ c2) (h2 : c2 ≤ maxLen) (ho : Own (w.heap.size + 2) W' A2 l) : StS w W' { p with mem := l } A2 c2 :=
 ⟨⟨hq.out, hq.len⟩, blockS h.rb hg (by omega), ho, h.chg.then_new hg (fun x e => by omega), h1, h2⟩
theorem results_ctt {P : Program} {fn : Func} {p q q2 : Tmp} {ty : TypeId} (h : fn.results = #[.cell p ty, .tmp q, .tmp q2]) (tmps : Array Value) (w : World) (g : Nat) (t : TypeId) (cs : Array Value) (fr : Nat × Nat) (d : TypeDesc) (v v2 : Value)
  (hp : tmps.getD p undef = .pointer (some ⟨g, 0, none⟩)) (hv : tmps.getD q undef = v) (hv2 : tmps.getD q2 undef = v2) (hg : w.heap[g]? = some (.cells cs t fr))
  (hu : P.underlying ty = some d) (hd : (match d with | .struct _ | .array _ _ => true | _ => false) = true) (hi : (P.info? ty).map (·.size) = some cs.size) :
  (results fn tmps).run P w = .ok (.tuple #[.agg cs, v, v2]) w := by
 have hp' : tmps[p]?.getD undef = .pointer (some ⟨g, 0, none⟩) := by simpa using hp
 have hv' : tmps[q]?.getD undef = v := by simpa using hv
 have hv2' : tmps[q2]?.getD undef = v2 := by simpa using hv2
 simp [results, h, hp', hv', hv2', asAddr, run_loadVar_row w g t ty cs fr d hg hu hd hi]
set_option maxRecDepth 100000 in
theorem step_stop (p : Pt) (A : Option Addr) (c : Nat) (w : World) (hb : p.Bd) (hr : Rd w A p.mem) (hl : p.mem.length ≤ 140737488355328) (hs : p.st ≠ 0) :
  Calls Tryz.prog 230 #[.agg (partC p (.slice A p.mem.length c))] w (RetStep w (p) (-1) (2)) := by
 have h8 := hb.r8
 have HBd := Lib.hid hb
 obtain ⟨C, hC⟩ : ∃ C, partC p (.slice A p.mem.length c) = C := ⟨_, rfl⟩
 have hsz : C.size = 14 := by rw [← hC]; exact partC_size h8 _
 have hcp := fun W hrW => Copy_ok p A p.mem c W h8 hrW hl
 rw [hC] at hcp ⊢
 have HCp := Lib.hid hcp
 have HR := Lib.hid hr
 clear hcp hC hr hb
 go_enter Tryz.func230, Tryz.ntmps230
 go_wp2_with (first
   | (refine sel (some 8) (.load _ (.tmp 1)) ?_; refine Vm_stop ?_))
 refine HoleV.mk ?_
 refine wpList_load_row rfl 69 (.tmp 1) rfl w.heap.size rfl 69 C (0, 0) _ (al_2_0 w _ _) Tryz.underlying69 rfl (by rw [hsz]; exact info_part) ?_
 go_wp2_with fail
 refine (HCp.out _ (HR.out.non (((Chg.refl Non w).alloc _).alloc _))).mono ?_
 rintro e w1 ⟨A2, c2, rfl, q1, q2, q3, q4⟩
 have hbx := blockN q4 (al_2_0 w (.cells C 69) (.cells zeroPart 69))
 have HBy := Lib.hid (blockN q4 (al_2_1 w (.cells C 69) (.cells zeroPart 69)))
 have HO := Lib.hid (q3.mono (show w.heap.size + 2 ≤ _ by simp))
 have HG := Lib.hid ((((Chg.refl Non w).alloc _).alloc _).then_non q4)
 clear q3 q4
 go_wp2_with (first
   | (refine sel none (.store _ (.tmp 1) (.tmp 9)) ?_; refine Vm_stop ?_))
 refine HoleV.mk ?_
 refine wpList_store_rowA rfl 69 (.tmp 1) (.tmp 9) rfl w.heap.size (partC p (.slice A2 p.mem.length c2)) rfl rfl 69 C hbx (by rw [partC_size h8]; exact info_part) (by rw [partC_size h8, hsz]) (partC_one _ _ rfl) ?_
 intro w2 hg2 hb2
 have hst0 : StS w w2 p A2 c2 := ⟨⟨hb2, h8⟩, blockS HBy.out hg2 (by omega), HO.out.keep hg2 (fun b o e1 e2 e3 e4 => by omega), HG.out.then_new hg2 (fun x e => by omega), q1, q2⟩
 have HS := Lib.hid hst0
 have c12 := hst0.pb.cells.2.2.2.2.1
 clear hg2 hb2 hst0 hbx
 have hsb : ((p.st : Int) != 0) = true := by rw [bne_iff_ne]; omega
 go_wp2_with (first
   | (refine sel (some 13) (.load _ (.tmp 1)) ?_; refine Vm_stop ?_))
 refine HoleV.mk ?_
 refine wpList_load_row rfl 69 (.tmp 1) rfl w.heap.size rfl 69 _ (0, 0) _ HS.out.pb.out Tryz.underlying69 rfl (by rw [partC_size HS.out.pb.len]; exact info_part) ?_
 go_wp2_with (first
   | (refine sel none (.store _ (.tmp 2) (.tmp 13)) ?_; refine Vm_stop ?_))
 refine HoleV.mk ?_
 refine wpList_store_rowA rfl 69 (.tmp 2) (.tmp 13) rfl (w.heap.size + 1) _ rfl rfl 69 zeroPart HS.out.rb (by rw [partC_size HS.out.pb.len]; exact info_part) (by rw [partC_size HS.out.pb.len]; rfl) (partC_one _ _ rfl) ?_
 intro WR hgR hbR
 have HBR := Lib.hid hbR
 have HGR := Lib.hid hgR
 clear hbR hgR
 go_wp2_with fail
 refine bodyPost_ret (results_ctt Tryz.results230 _ _ (w.heap.size + 1) 69 _ (0, 0) _ (.int .i64 (-1)) (.int .i64 (2)) rfl rfl rfl HBR.out Tryz.underlying69 rfl (by rw [partC_size HS.out.pb.len]; exact info_part)) rfl ?_
 exact ⟨_, _, rfl, HS.out.h1, HS.out.h2, (HS.out.own.keep HGR.out (fun b o e1 e2 e3 e4 => by omega)).mono (by omega), HS.out.chg.then_new HGR.out (fun x e => by omega)⟩
end
section
open Go.RowKit
set_option maxRecDepth 100000 in
theorem step_nofetch (p : Pt) (A : Option Addr) (c : Nat) (w : World) (hb : p.Bd) (hr : Rd w A p.mem) (hl : p.mem.length ≤ 140737488355328) (hs : p.st = 0) (ht : there p.mem p.pc 4 = false) :
  Calls Tryz.prog 230 #[.agg (partC p (.slice A p.mem.length c))] w (RetStep w ({ p with st := 3 }) (-1) (0)) := by
 have HT := Lib.hid ht
 clear ht
 have h8 := hb.r8
 have HBd := Lib.hid hb
 obtain ⟨C, hC⟩ : ∃ C, partC p (.slice A p.mem.length c) = C := ⟨_, rfl⟩
 have hsz : C.size = 14 := by rw [← hC]; exact partC_size h8 _
 have hcp := fun W hrW => Copy_ok p A p.mem c W h8 hrW hl
 rw [hC] at hcp ⊢
 have HCp := Lib.hid hcp
 have HR := Lib.hid hr
 clear hcp hC hr hb
 go_enter Tryz.func230, Tryz.ntmps230
 go_wp2_with (first
   | (refine sel (some 8) (.load _ (.tmp 1)) ?_; refine Vm_stop ?_))
 refine HoleV.mk ?_
 refine wpList_load_row rfl 69 (.tmp 1) rfl w.heap.size rfl 69 C (0, 0) _ (al_2_0 w _ _) Tryz.underlying69 rfl (by rw [hsz]; exact info_part) ?_
 go_wp2_with fail
 refine (HCp.out _ (HR.out.non (((Chg.refl Non w).alloc _).alloc _))).mono ?_
 rintro e w1 ⟨A2, c2, rfl, q1, q2, q3, q4⟩
 have hbx := blockN q4 (al_2_0 w (.cells C 69) (.cells zeroPart 69))
 have HBy := Lib.hid (blockN q4 (al_2_1 w (.cells C 69) (.cells zeroPart 69)))
 have HO := Lib.hid (q3.mono (show w.heap.size + 2 ≤ _ by simp))
 have HG := Lib.hid ((((Chg.refl Non w).alloc _).alloc _).then_non q4)
 clear q3 q4
 go_wp2_with (first
   | (refine sel none (.store _ (.tmp 1) (.tmp 9)) ?_; refine Vm_stop ?_))
 refine HoleV.mk ?_
 refine wpList_store_rowA rfl 69 (.tmp 1) (.tmp 9) rfl w.heap.size (partC p (.slice A2 p.mem.length c2)) rfl rfl 69 C hbx (by rw [partC_size h8]; exact info_part) (by rw [partC_size h8, hsz]) (partC_one _ _ rfl) ?_
 intro w2 hg2 hb2
 have hst0 : StS w w2 p A2 c2 := ⟨⟨hb2, h8⟩, blockS HBy.out hg2 (by omega), HO.out.keep hg2 (fun b o e1 e2 e3 e4 => by omega), HG.out.then_new hg2 (fun x e => by omega), q1, q2⟩
 have HS := Lib.hid hst0
 have c12 := hst0.pb.cells.2.2.2.2.1
 clear hg2 hb2 hst0 hbx
 have c12' : w2.cell? ⟨w.heap.size, 12, none⟩ = some (.int .u8 0) := by rw [hs] at c12; exact c12
 have c11 := HS.out.pb.cells.2.2.2.1
 have c13 := HS.out.pb.cells.2.2.2.2.2
 have hwp : IntKind.i64.wrap (p.pc : Int) = p.pc := Go.IntWalk.i64_in _ (by have := HBd.out.pcb; omega)
 clear c12 hs
 go_wp2_with fail
 refine (Read_no A2 p.mem c2 p.pc 4 _ (by have := HBd.out.pcb; omega) (by omega) HT.out).mono ?_
 rintro e y1 ⟨er, her, rfl, rfl⟩
 have hern : (er != 0) = true := by rw [bne, her]; rfl
 have hlt := HS.out.pb.lt
 have hf := HS.out.pb.frozen 12
 have HS2 := Lib.hid (HS.out.at (setAt w2 w.heap.size 12 (.int .u8 3)) (HS.out.pb.setSt 3) rfl)
 go_wp2_with (first
   | (refine sel (some 26) (.load _ (.tmp 1)) ?_; refine Vm_stop ?_))
 refine HoleV.mk ?_
 refine wpList_load_row rfl 69 (.tmp 1) rfl w.heap.size rfl 69 _ (0, 0) _ HS2.out.pb.out Tryz.underlying69 rfl (by rw [partC_size HS2.out.pb.len]; exact info_part) ?_
 go_wp2_with (first
   | (refine sel none (.store _ (.tmp 2) (.tmp 26)) ?_; refine Vm_stop ?_))
 refine HoleV.mk ?_
 refine wpList_store_rowA rfl 69 (.tmp 2) (.tmp 26) rfl (w.heap.size + 1) _ rfl rfl 69 zeroPart HS2.out.rb (by rw [partC_size HS2.out.pb.len]; exact info_part) (by rw [partC_size HS2.out.pb.len]; rfl) (partC_one _ _ rfl) ?_
 intro WR hgR hbR
 have HBR := Lib.hid hbR
 have HGR := Lib.hid hgR
 clear hbR hgR
 go_wp2_with fail
 refine bodyPost_ret (results_ctt Tryz.results230 _ _ (w.heap.size + 1) 69 _ (0, 0) _ (.int .i64 (-1)) (.int .i64 (0)) rfl rfl rfl HBR.out Tryz.underlying69 rfl (by rw [partC_size HS2.out.pb.len]; exact info_part)) rfl ?_
 exact ⟨_, _, rfl, HS2.out.h1, HS2.out.h2, (HS2.out.own.keep HGR.out (fun b o e1 e2 e3 e4 => by omega)).mono (by omega), HS2.out.chg.then_new HGR.out (fun x e => by omega)⟩
set_option maxRecDepth 100000 in
theorem step_badop (p : Pt) (A : Option Addr) (c : Nat) (w : World) (hb : p.Bd) (hr : Rd w A p.mem) (hl : p.mem.length ≤ 140737488355328) (hs : p.st = 0) (ht : there p.mem p.pc 4 = true) (f0 f1 f2 f3 : UInt8) (hcut : cut p.mem p.pc 4 = [f0, f1, f2, f3]) (hm : mayB (decI f0.toNat f1.toNat f2.toNat f3.toNat) = false) :
  Calls Tryz.prog 230 #[.agg (partC p (.slice A p.mem.length c))] w (RetStep w ({ p with st := 2 }) (-1) (0)) := by
 have HT := Lib.hid ht
 have HM := Lib.hid hm
 have HF4 : Hid (Four (f0.toNat, f1.toNat, f2.toNat, f3.toNat)) := Lib.hid ⟨f0.toNat_lt, f1.toNat_lt, f2.toNat_lt, f3.toNat_lt⟩
 clear ht hm
 have h8 := hb.r8
 have HBd := Lib.hid hb
 obtain ⟨C, hC⟩ : ∃ C, partC p (.slice A p.mem.length c) = C := ⟨_, rfl⟩
 have hsz : C.size = 14 := by rw [← hC]; exact partC_size h8 _
 have hcp := fun W hrW => Copy_ok p A p.mem c W h8 hrW hl
 rw [hC] at hcp ⊢
 have HCp := Lib.hid hcp
 have HR := Lib.hid hr
 clear hcp hC hr hb
 go_enter Tryz.func230, Tryz.ntmps230
 go_wp2_with (first
   | (refine sel (some 8) (.load _ (.tmp 1)) ?_; refine Vm_stop ?_))
 refine HoleV.mk ?_
 refine wpList_load_row rfl 69 (.tmp 1) rfl w.heap.size rfl 69 C (0, 0) _ (al_2_0 w _ _) Tryz.underlying69 rfl (by rw [hsz]; exact info_part) ?_
 go_wp2_with fail
 refine (HCp.out _ (HR.out.non (((Chg.refl Non w).alloc _).alloc _))).mono ?_
 rintro e w1 ⟨A2, c2, rfl, q1, q2, q3, q4⟩
 have hbx := blockN q4 (al_2_0 w (.cells C 69) (.cells zeroPart 69))
 have HBy := Lib.hid (blockN q4 (al_2_1 w (.cells C 69) (.cells zeroPart 69)))
 have HO := Lib.hid (q3.mono (show w.heap.size + 2 ≤ _ by simp))
 have HG := Lib.hid ((((Chg.refl Non w).alloc _).alloc _).then_non q4)
 clear q3 q4
 go_wp2_with (first
   | (refine sel none (.store _ (.tmp 1) (.tmp 9)) ?_; refine Vm_stop ?_))
 refine HoleV.mk ?_
 refine wpList_store_rowA rfl 69 (.tmp 1) (.tmp 9) rfl w.heap.size (partC p (.slice A2 p.mem.length c2)) rfl rfl 69 C hbx (by rw [partC_size h8]; exact info_part) (by rw [partC_size h8, hsz]) (partC_one _ _ rfl) ?_
 intro w2 hg2 hb2
 have hst0 : StS w w2 p A2 c2 := ⟨⟨hb2, h8⟩, blockS HBy.out hg2 (by omega), HO.out.keep hg2 (fun b o e1 e2 e3 e4 => by omega), HG.out.then_new hg2 (fun x e => by omega), q1, q2⟩
 have HS := Lib.hid hst0
 have c12 := hst0.pb.cells.2.2.2.2.1
 clear hg2 hb2 hst0 hbx
 have c12' : w2.cell? ⟨w.heap.size, 12, none⟩ = some (.int .u8 0) := by rw [hs] at c12; exact c12
 have c11 := HS.out.pb.cells.2.2.2.1
 have c13 := HS.out.pb.cells.2.2.2.2.2
 have hwp : IntKind.i64.wrap (p.pc : Int) = p.pc := Go.IntWalk.i64_in _ (by have := HBd.out.pcb; omega)
 clear c12 hs
 go_wp2_with fail
 have hrd := Read_yes A2 p.mem c2 p.pc 4 w2 HS.out.own.rd q1 q2 (by omega) HT.out
 rw [hcut] at hrd
 refine hrd.mono ?_
 rintro e y1 ⟨A3, c3, rfl, k1, k2, k3, k4⟩
 obtain ⟨b3, o3, rfl, _, hc3⟩ := k3.rd.at_ (by simp)
 have d0 := hc3 0 (by simp)
 have d1 := hc3 1 (by simp)
 have d2 := hc3 2 (by simp)
 have d3 := hc3 3 (by simp)
 simp only [Nat.add_zero, List.getElem_cons_zero, List.getElem_cons_succ] at d0 d1 d2 d3
 have HS := Lib.hid (HS.out.non k4)
 have harr : ∀ W : World, (Instr.arrayAt 146 (.slice (some ⟨b3, o3, none⟩) 4 c3)).run Tryz.prog W = .ok (.pointer (some ⟨b3, o3, none⟩)) W := fun W => run_arrayAt W _ _ 4 _ 4 c3 Tryz.underlying146 (Nat.le_refl _)
 clear hc3 k3 k4 hrd c12' c11 c13
 go_wp2_with fail
 refine (Dec_n f0.toNat f1.toNat f2.toNat f3.toNat _ HF4.out HM.out).mono ?_
 rintro e y2 ⟨rfl, k5⟩
 have HS := Lib.hid (HS.out.non k5)
 clear k5 d0 d1 d2 d3
 have hs3 := HS.out.non ((Chg.refl Non _).alloc (.cells #[.int .u8 0, .int .u8 0, .int .u8 0, .int .u8 0, .int .i64 0] 143))
 have HS3 := Lib.hid hs3
 have c12 := hs3.pb.cells.2.2.2.2.1
 have hlt := hs3.pb.lt
 have hf := hs3.pb.frozen 12
 clear hs3
 have HS4 := Lib.hid (HS3.out.at (setAt _ w.heap.size 12 (.int .u8 2)) (HS3.out.pb.setSt 2) rfl)
 go_wp2_with (first
   | (refine sel (some 37) (.load _ (.tmp 1)) ?_; refine Vm_stop ?_))
 refine HoleV.mk ?_
 refine wpList_load_row rfl 69 (.tmp 1) rfl w.heap.size rfl 69 _ (0, 0) _ HS4.out.pb.out Tryz.underlying69 rfl (by rw [partC_size HS4.out.pb.len]; exact info_part) ?_
 go_wp2_with (first
   | (refine sel none (.store _ (.tmp 2) (.tmp 37)) ?_; refine Vm_stop ?_))
 refine HoleV.mk ?_
 refine wpList_store_rowA rfl 69 (.tmp 2) (.tmp 37) rfl (w.heap.size + 1) _ rfl rfl 69 zeroPart HS4.out.rb (by rw [partC_size HS4.out.pb.len]; exact info_part) (by rw [partC_size HS4.out.pb.len]; rfl) (partC_one _ _ rfl) ?_
 intro WR hgR hbR
 have HBR := Lib.hid hbR
 have HGR := Lib.hid hgR
 clear hbR hgR
 go_wp2_with fail
 refine bodyPost_ret (results_ctt Tryz.results230 _ _ (w.heap.size + 1) 69 _ (0, 0) _ (.int .i64 (-1)) (.int .i64 (0)) rfl rfl rfl HBR.out Tryz.underlying69 rfl (by rw [partC_size HS4.out.pb.len]; exact info_part)) rfl ?_
 exact ⟨_, _, rfl, HS4.out.h1, HS4.out.h2, (HS4.out.own.keep HGR.out (fun b o e1 e2 e3 e4 => by omega)).mono (by omega), HS4.out.chg.then_new HGR.out (fun x e => by omega)⟩
end
section
open Go.RowKit
theorem may_bd {op a b c n : Nat} (h : mayB ⟨op, a, b, c, (n : Nat)⟩ = true) : op < 22 ∧ a < 8 ∧ b < 8 ∧ c < 8 ∧ n < 65536 := by
 have hi := (mayB_iff _).1 h
 obtain ⟨h1, h2, h3, h4, h5, h6⟩ := hi
 simp only at h1 h2 h3 h4 h5 h6
 have hn := opAt_n op
 have h1' := h1.2
 refine ⟨by omega, ?_, ?_, ?_, by omega⟩
 ·rcases h2 with ⟨_, h⟩ | h <;> omega
 ·rcases h3 with ⟨_, h⟩ | h <;> omega
 ·rcases h4 with ⟨_, h⟩ | h <;> omega
set_option maxRecDepth 100000 in
theorem step_jump (p : Pt) (A : Option Addr) (c : Nat) (w : World) (hb : p.Bd) (hr : Rd w A p.mem) (hl : p.mem.length ≤ 140737488355328) (hs : p.st = 0) (ht : there p.mem p.pc 4 = true) (f0 f1 f2 f3 : UInt8) (hcut : cut p.mem p.pc 4 = [f0, f1, f2, f3]) (op a b2 cc n : Nat) (hd : decI f0.toNat f1.toNat f2.toNat f3.toNat = ⟨op, a, b2, cc, (n : Nat)⟩) (hm : mayB ⟨op, a, b2, cc, (n : Nat)⟩ = true) (hj : jumpsB ⟨op, a, b2, cc, (n : Nat)⟩ p = true) :
  Calls Tryz.prog 230 #[.agg (partC p (.slice A p.mem.length c))] w (RetStep w ({ p with pc := n }) (-1) (0)) := by
 have HT := Lib.hid ht
 have HM := Lib.hid hm
 have HDc := Lib.hid hd
 have hx1 := may_bd hm
 have ho22 : op < 22 := hx1.1
 have ha8 : a < 8 := hx1.2.1
 have hb8 : b2 < 8 := hx1.2.2.1
 have hc8 : cc < 8 := hx1.2.2.2.1
 have hn16 : n < 65536 := hx1.2.2.2.2
 have HF4 : Hid (Four (f0.toNat, f1.toNat, f2.toNat, f3.toNat)) := Lib.hid ⟨f0.toNat_lt, f1.toNat_lt, f2.toNat_lt, f3.toNat_lt⟩
 clear ht hm hd hx1
 have HJ := Lib.hid hj
 clear hj
 have h8 := hb.r8
 have HBd := Lib.hid hb
 obtain ⟨C, hC⟩ : ∃ C, partC p (.slice A p.mem.length c) = C := ⟨_, rfl⟩
 have hsz : C.size = 14 := by rw [← hC]; exact partC_size h8 _
 have hcp := fun W hrW => Copy_ok p A p.mem c W h8 hrW hl
 rw [hC] at hcp ⊢
 have HCp := Lib.hid hcp
 have HR := Lib.hid hr
 clear hcp hC hr hb
 go_enter Tryz.func230, Tryz.ntmps230
 go_wp2_with (first
   | (refine sel (some 8) (.load _ (.tmp 1)) ?_; refine Vm_stop ?_))
 refine HoleV.mk ?_
 refine wpList_load_row rfl 69 (.tmp 1) rfl w.heap.size rfl 69 C (0, 0) _ (al_2_0 w _ _) Tryz.underlying69 rfl (by rw [hsz]; exact info_part) ?_
 go_wp2_with fail
 refine (HCp.out _ (HR.out.non (((Chg.refl Non w).alloc _).alloc _))).mono ?_
 rintro e w1 ⟨A2, c2, rfl, q1, q2, q3, q4⟩
 have hbx := blockN q4 (al_2_0 w (.cells C 69) (.cells zeroPart 69))
 have HBy := Lib.hid (blockN q4 (al_2_1 w (.cells C 69) (.cells zeroPart 69)))
 have HO := Lib.hid (q3.mono (show w.heap.size + 2 ≤ _ by simp))
 have HG := Lib.hid ((((Chg.refl Non w).alloc _).alloc _).then_non q4)
 clear q3 q4
 go_wp2_with (first
   | (refine sel none (.store _ (.tmp 1) (.tmp 9)) ?_; refine Vm_stop ?_))
 refine HoleV.mk ?_
 refine wpList_store_rowA rfl 69 (.tmp 1) (.tmp 9) rfl w.heap.size (partC p (.slice A2 p.mem.length c2)) rfl rfl 69 C hbx (by rw [partC_size h8]; exact info_part) (by rw [partC_size h8, hsz]) (partC_one _ _ rfl) ?_
 intro w2 hg2 hb2
 have hst0 : StS w w2 p A2 c2 := ⟨⟨hb2, h8⟩, blockS HBy.out hg2 (by omega), HO.out.keep hg2 (fun b o e1 e2 e3 e4 => by omega), HG.out.then_new hg2 (fun x e => by omega), q1, q2⟩
 have HS := Lib.hid hst0
 have c12 := hst0.pb.cells.2.2.2.2.1
 clear hg2 hb2 hst0 hbx
 have c12' : w2.cell? ⟨w.heap.size, 12, none⟩ = some (.int .u8 0) := by rw [hs] at c12; exact c12
 have c11 := HS.out.pb.cells.2.2.2.1
 have c13 := HS.out.pb.cells.2.2.2.2.2
 have hwp : IntKind.i64.wrap (p.pc : Int) = p.pc := Go.IntWalk.i64_in _ (by have := HBd.out.pcb; omega)
 clear c12 hs
 go_wp2_with fail
 have hrd := Read_yes A2 p.mem c2 p.pc 4 w2 HS.out.own.rd q1 q2 (by omega) HT.out
 rw [hcut] at hrd
 refine hrd.mono ?_
 rintro e y1 ⟨A3, c3, rfl, k1, k2, k3, k4⟩
 obtain ⟨b3, o3, rfl, _, hc3⟩ := k3.rd.at_ (by simp)
 have d0 := hc3 0 (by simp)
 have d1 := hc3 1 (by simp)
 have d2 := hc3 2 (by simp)
 have d3 := hc3 3 (by simp)
 simp only [Nat.add_zero, List.getElem_cons_zero, List.getElem_cons_succ] at d0 d1 d2 d3
 have HS := Lib.hid (HS.out.non k4)
 have harr : ∀ W : World, (Instr.arrayAt 146 (.slice (some ⟨b3, o3, none⟩) 4 c3)).run Tryz.prog W = .ok (.pointer (some ⟨b3, o3, none⟩)) W := fun W => run_arrayAt W _ _ 4 _ 4 c3 Tryz.underlying146 (Nat.le_refl _)
 clear hc3 k3 k4 hrd c12' c11 c13
 go_wp2_with fail
 refine (Dec_v f0.toNat f1.toNat f2.toNat f3.toNat op a b2 cc n _ HF4.out HDc.out HM.out).mono ?_
 rintro e y2 ⟨rfl, k5⟩
 have HS := Lib.hid (HS.out.non k5)
 clear k5 d0 d1 d2 d3
 go_wp2_with fail
 have HS3 := Lib.hid (HS.out.non ((Chg.refl Non _).alloc (.cells #[.int .u8 op, .int .u8 a, .int .u8 b2, .int .u8 cc, .int .i64 (n : Nat)] 143)))
 have HX3 := Lib.hid (heap_alloc_new y2 (.cells #[.int .u8 op, .int .u8 a, .int .u8 b2, .int .u8 cc, .int .i64 (n : Nat)] 143))
 refine (jumps_ok w.heap.size p _ op a b2 cc n _ HS3.out.pb ho22 ha8).mono ?_
 rw [HJ.out]
 rintro e y3 ⟨rfl, k6⟩
 have hs4 := HS3.out.non k6
 have HS4 := Lib.hid hs4
 have HX4 := Lib.hid (blockN k6 HX3.out)
 obtain ⟨⟨z, c0, c1, c2x, c3x, c4⟩, _⟩ := (Blk5.mk HX4.out).all
 have hxb : w.heap.size + 2 ≤ y2.heap.size := by have h1 := (Array.getElem?_eq_some_iff.1 HS.out.rb).1; omega
 have c11 := hs4.pb.cells.2.2.2.1
 have hlt := hs4.pb.lt
 clear k6 hs4
 have hf := HS4.out.pb.frozen 11
 have hwn : IntKind.u32.wrap (n : Int) = n := Go.IntWalk.u32_in _ (by omega)
 have HS5 := Lib.hid (HS4.out.at (setAt _ w.heap.size 11 (.int .u32 (n : Nat))) (HS4.out.pb.setPc n) rfl)
 go_wp2_with (first
   | (refine sel (some 44) (.load _ (.tmp 1)) ?_; refine Vm_stop ?_))
 refine HoleV.mk ?_
 refine wpList_load_row rfl 69 (.tmp 1) rfl w.heap.size rfl 69 _ (0, 0) _ HS5.out.pb.out Tryz.underlying69 rfl (by rw [partC_size HS5.out.pb.len]; exact info_part) ?_
 go_wp2_with (first
   | (refine sel none (.store _ (.tmp 2) (.tmp 44)) ?_; refine Vm_stop ?_))
 refine HoleV.mk ?_
 refine wpList_store_rowA rfl 69 (.tmp 2) (.tmp 44) rfl (w.heap.size + 1) _ rfl rfl 69 zeroPart HS5.out.rb (by rw [partC_size HS5.out.pb.len]; exact info_part) (by rw [partC_size HS5.out.pb.len]; rfl) (partC_one _ _ rfl) ?_
 intro WR hgR hbR
 have HBR := Lib.hid hbR
 have HGR := Lib.hid hgR
 clear hbR hgR
 go_wp2_with fail
 refine bodyPost_ret (results_ctt Tryz.results230 _ _ (w.heap.size + 1) 69 _ (0, 0) _ (.int .i64 (-1)) (.int .i64 (0)) rfl rfl rfl HBR.out Tryz.underlying69 rfl (by rw [partC_size HS5.out.pb.len]; exact info_part)) rfl ?_
 exact ⟨_, _, rfl, HS5.out.h1, HS5.out.h2, (HS5.out.own.keep HGR.out (fun b o e1 e2 e3 e4 => by omega)).mono (by omega), HS5.out.chg.then_new HGR.out (fun x e => by omega)⟩
end
section
open Go.RowKit
theorem h_two {P : Program} {md : Region.Mode} {ops : Array Oper} {Q : Exit → Act → World → Prop} {S : World → Prop} {fuel : Nat} {listed : Array Bool} {a : Act} {w : World} (i j : Nat) {oi oj : Oper} (hr : Region.ready md ops listed = [i, j]) (hi : ops[i]? = some oi) (hj : ops[j]? = some oj) (hwi : Region.wanted oi (yielded ops a.tmps) = true) (hwj : Region.wanted oj (yielded ops a.tmps) = true)
  (h1 : ∀ K : Act → World → Prop, Shut (∀ a w, S w → (S w → wpAnyH P md ops Q S fuel (listed.setIfInBounds i true) a w) → K a w) → Oper.wp P oi a w K Q)
  (h2 : ∀ K : Act → World → Prop, Shut (∀ a w, S w → (S w → wpAnyH P md ops Q S fuel (listed.setIfInBounds j true) a w) → K a w) → Oper.wp P oj a w K Q) : wpAnyH P md ops Q S (fuel + 1) listed a w :=
 wpAnyH_ready hr (by simp) (AllReadyH.cons hi (fun K hK => by rw [if_pos hwi]; exact h1 K hK) (AllReadyH.cons hj (fun K hK => by rw [if_pos hwj]; exact h2 K hK) AllReadyH.nil))
theorem fn_ne_d (d : Nat) (f : FuncId) (W : World) : (Op.equalIn (d + 1) 320 (.func (.func f) #[] #[]) .nilFunc).run Tryz.prog W = .ok false W := by simp [Op.equalIn, run_underlying Tryz.underlying320]
theorem fn_ne (f : FuncId) (W : World) : (binOp .neq 320 (.func (.func f) #[] #[]) .nilFunc).run Tryz.prog W = .ok (.bool true) W := by
 have h1 : (Op.equal 320 (.func (.func f) #[] #[]) .nilFunc).run Tryz.prog W = .ok false W := fn_ne_d 9999 f W
 simp only [binOp]
 simp [h1]
theorem fn_eq_d (d : Nat) (W : World) : (Op.equalIn (d + 1) 320 .nilFunc .nilFunc).run Tryz.prog W = .ok true W := by simp [Op.equalIn, run_underlying Tryz.underlying320]
theorem fn_eq (W : World) : (binOp .neq 320 .nilFunc .nilFunc).run Tryz.prog W = .ok (.bool false) W := by
 have h1 : (Op.equal 320 .nilFunc .nilFunc).run Tryz.prog W = .ok true W := fn_eq_d 9999 W
 simp only [binOp]
 simp [h1]
theorem fd_ne_d (d : Nat) (f : FuncId) (W : World) : (Op.equalIn (d + 1) 318 (.func (.func f) #[] #[]) .nilFunc).run Tryz.prog W = .ok false W := by simp [Op.equalIn, run_underlying Tryz.underlying318]
theorem fd_ne (f : FuncId) (W : World) : (binOp .neq 318 (.func (.func f) #[] #[]) .nilFunc).run Tryz.prog W = .ok (.bool true) W := by
 have h1 : (Op.equal 318 (.func (.func f) #[] #[]) .nilFunc).run Tryz.prog W = .ok false W := fd_ne_d 9999 f W
 simp only [binOp]
 simp [h1]
theorem fd_eq_d (d : Nat) (W : World) : (Op.equalIn (d + 1) 318 .nilFunc .nilFunc).run Tryz.prog W = .ok true W := by simp [Op.equalIn, run_underlying Tryz.underlying318]
theorem fd_eq (W : World) : (binOp .neq 318 .nilFunc .nilFunc).run Tryz.prog W = .ok (.bool false) W := by
 have h1 : (Op.equal 318 .nilFunc .nilFunc).run Tryz.prog W = .ok true W := fd_eq_d 9999 W
 simp only [binOp]
 simp [h1]
theorem info_vop : (Tryz.prog.info? 322).map (·.size) = some 2 := by kernel_rfl
end
end Go.Proofs.YtmnaleaghfbclaaGreatDoor
