/- CheckBase, part 2 of 21: contracts of the functions that it reaches, and the laws that they need, merged and shortened (from my texts XFrame, XFrame2, XWriter, XReader, XSeal, XWireW, XAny, XHeld, XMini, XGen, XDk, XDiskD). -/
import Derived.Test.YtkgnlobabknkcaaGreatMgCheckBaseA
import Derived.Laws.EntriesVeiled
import Derived.Deep.RegionHeld3
import Derived.Deep.AppendLies
import Derived.OneCell
import Derived.RegionTactic
import Derived.Deep.MidRow
import Derived.Laws.Sem
import Derived.OwnWalkIn
import Derived.LoopNIn
import Derived.Deep.LoopGhost
namespace Go.Proofs.YtkgnlobabknkcaaGreat
set_option linter.unusedVariables false
set_option linter.unusedSimpArgs false
set_option maxHeartbeats 8000000
section
open Go.RowKit
def sealL (kind : UInt8) (b : List UInt8) : List UInt8 := crcPut ([kind, UInt8.ofNat b.length] ++ b ++ List.replicate (58 - b.length) 0)
def sizeL (s : List UInt8) : Nat := (s.getD 1 0).toNat
def wholeL (s : List UInt8) : Bool :=
 decide (s.length = 64) && (crcOk s && (decide (sizeL s ≤ 58) && decide ((s.drop (2 + sizeL s)).take (60 - (2 + sizeL s)) = List.replicate (60 - (2 + sizeL s)) 0)))
def RetB2 (w : World) (l : List UInt8) (v : Value) (e : Ending) (w' : World) : Prop :=
 ∃ A c, e = .returned (.tuple #[.slice A l.length c, v]) ∧ l.length ≤ c ∧ c ≤ maxLen ∧ Own w.heap.size w' A l ∧ Chg Non w w'
theorem zeros_own (w : World) (n : Nat) (t : TypeId) : Own w.heap.size (w.alloc (.cells (Array.replicate n (.int .u8 0)) t)) (some ⟨w.heap.size, 0, none⟩) (List.replicate n 0) :=
 own_new _ _ _ _ (by simp [bv])
set_option maxRecDepth 100000 in
theorem Seal_any (kind : UInt8) (A : Option Addr) (l : List UInt8) (cap : Nat) (w : World) (hr : Rd w A l) (hl : l.length ≤ 58) :
  Calls Tryz.prog 36 #[.int .u8 (kind.toNat : Int), .slice A l.length cap] w (RetB2 w (sealL kind l) (.int .i64 0)) := by
 have hmk := fun W => mk_bytes (58 - (l.length : Int)) (by omega) (by omega) W
 have e1 : (58 - (l.length : Int)).toNat = 58 - l.length := by omega
 rw [e1] at hmk
 have e2 : ((58 - l.length : Nat) : Int) = 58 - (l.length : Int) := by omega
 clear e1 e2
 go_enter Tryz.func36, Tryz.ntmps36
 go_wp2_with fail
 have o1 : Own w.heap.size (w.alloc (.cells #[.int .u8 (kind.toNat : Int), .int .u8 (l.length : Int)] 5)) (some ⟨w.heap.size, 0, none⟩) [kind, UInt8.ofNat l.length] :=
  own_new _ _ _ _ (by simp [bv, Nat.mod_eq_of_lt (show l.length < 256 by omega)])
 have o3 := zeros_own (w.alloc (.cells #[.int .u8 (kind.toNat : Int), .int .u8 (l.length : Int)] 5)) (58 - l.length) 5
 simp only [World.size_alloc] at o3
 have hz : (List.replicate (58 - l.length) (0 : UInt8)).length = 58 - l.length := by simp
 have hc := fun t W g hg h1 h2 h3 => Cat3 (some ⟨w.heap.size, 0, none⟩) A (some ⟨w.heap.size + 1, 0, none⟩) [kind, UInt8.ofNat l.length] l (List.replicate (58 - l.length) 0) 2 cap (58 - l.length) t W g hg h1 h2 h3
  (by simp; omega) _ rfl
 rw [hz] at hc
 refine (hc _ _ _ (by simp) (o1.rd.non ((Chg.refl _ _).alloc _)) (hr.non (((Chg.refl _ _).alloc _).alloc _)) o3.rd).mono ?_
 clear hc o1 o3 hz hmk
 rintro e w1 h1
 have h2 := h1.from (((Chg.refl Non w).alloc _).alloc _)
 clear h1
 have hlen : ([kind, UInt8.ofNat l.length] ++ l ++ List.replicate (58 - l.length) 0).length = 60 := by simp; omega
 have hs : crcPut ([kind, UInt8.ofNat l.length] ++ l ++ List.replicate (58 - l.length) 0) = sealL kind l := rfl
 generalize [kind, UInt8.ofNat l.length] ++ l ++ List.replicate (58 - l.length) 0 = m at *
 obtain ⟨A1, c1, rfl, hc1, hm1, ho1, hg1⟩ := h2
 have HS := Lib.hid hs
 clear hs
 have hlen' : m.length ≤ 60 := by omega
 have HL := Lib.hid hlen
 clear hlen
 go_wp2_with fail
 refine (crcPut_any A1 m c1 w1 ho1.rd (by omega)).mono ?_
 rintro e w2 ⟨A2, c2, rfl, hc2, hm2, ho2, hg2⟩
 go_wp2
 go_ret2
 rw [← HS.out]
 exact ⟨A2, c2, rfl, hc2, hm2, ho2.mono hg1.size, hg1.then_non hg2⟩
set_option maxRecDepth 100000 in
theorem size_any (A : Option Addr) (l : List UInt8) (cap : Nat) (w : World) (hr : Rd w A l) (hl : 2 ≤ l.length) (hm : l.length ≤ 64) :
  Calls Tryz.prog 169 #[.slice A l.length cap] w fun e w' => e = .returned (.int .i64 (sizeL l : Nat)) ∧ w = w' := by
 obtain ⟨b, o, rfl, hb, hc⟩ := hr.at_ (by omega)
 have h1 := hc 1 (by omega)
 have hs : (l[1]'(by omega)).toNat = sizeL l := by simp [sizeL, List.getD, List.getElem?_eq_getElem (show 1 < l.length by omega)]
 rw [hs] at h1
 have hlt : sizeL l < 256 := by rw [← hs]; exact UInt8.toNat_lt _
 clear hc hs
 go_enter Tryz.func169, Tryz.ntmps169
 go_wp2
 go_ret
 exact ⟨rfl, rfl⟩
set_option maxRecDepth 100000 in
theorem whole1 (p : Nat) (A : Option Addr) (l : List UInt8) (cap : Nat) (w : World) (hp : w.cell? ⟨p, 0, none⟩ = some (.slice A l.length cap)) :
  Calls Tryz.prog 212 #[.pointer (some ⟨p, 0, none⟩)] w fun e w' => e = .returned (.bool (decide (l.length = 64))) ∧ w = w' := by
 by_cases h : l.length = 64
 ·have hd : ((l.length : Int) == 64) = true := by simp; omega
  rw [decide_eq_true h]
  clear h
  go_enter Tryz.func212, Tryz.ntmps212
  go_wp2
  go_ret
  exact ⟨rfl, rfl⟩
 ·have hd : ((l.length : Int) == 64) = false := by simp; omega
  rw [decide_eq_false h]
  clear h
  go_enter Tryz.func212, Tryz.ntmps212
  go_wp2
  go_ret
  exact ⟨rfl, rfl⟩
set_option maxRecDepth 100000 in
theorem whole2 (p : Nat) (A : Option Addr) (l : List UInt8) (cap : Nat) (w : World) (hp : w.cell? ⟨p, 0, none⟩ = some (.slice A l.length cap)) (hr : Rd w A l) (h64 : 64 ≤ l.length) (hl : l.length ≤ 64)
  (hcap : l.length ≤ cap) (hm : cap ≤ maxLen) :
  Calls Tryz.prog 213 #[.pointer (some ⟨p, 0, none⟩)] w fun e w' => e = .returned (.bool (crcOk l)) ∧ Chg Non w w' := by
 go_enter Tryz.func213, Tryz.ntmps213
 go_wp2_with fail
 refine (Check_any A l cap w hr (by omega) (by omega) hcap hm).mono ?_
 rintro e w1 ⟨⟨v, rfl⟩, hg⟩
 go_wp2
 go_ret
 exact ⟨rfl, hg⟩
set_option maxRecDepth 100000 in
theorem whole3 (p : Nat) (A : Option Addr) (l : List UInt8) (cap : Nat) (w : World) (hp : w.cell? ⟨p, 0, none⟩ = some (.slice A l.length cap)) (hr : Rd w A l) (h64 : 64 ≤ l.length) (hl : l.length ≤ 64) :
  Calls Tryz.prog 215 #[.pointer (some ⟨p, 0, none⟩)] w fun e w' => e = .returned (.bool (decide (sizeL l ≤ 58))) ∧ w = w' := by
 have e : decide (sizeL l ≤ 58) = decide ((sizeL l : Int) ≤ 58) := by simp; omega
 rw [e]
 clear e
 go_enter Tryz.func215, Tryz.ntmps215
 go_wp2_with fail
 refine (size_any A l cap w hr (by omega) hl).mono ?_
 rintro e w1 ⟨rfl, rfl⟩
 go_wp2
 go_ret
 exact ⟨rfl, rfl⟩
set_option maxRecDepth 100000 in
theorem whole4 (p : Nat) (A : Option Addr) (l : List UInt8) (cap : Nat) (w : World) (hp : w.cell? ⟨p, 0, none⟩ = some (.slice A l.length cap)) (hr : Rd w A l) (h64 : 64 ≤ l.length) (hl : l.length ≤ 64)
  (hcap : l.length ≤ cap) (hm : cap ≤ maxLen) (h58 : sizeL l ≤ 58) :
  Calls Tryz.prog 216 #[.pointer (some ⟨p, 0, none⟩)] w fun e w' => e = .returned (.bool (decide ((l.drop (2 + sizeL l)).take (60 - (2 + sizeL l)) = List.replicate (60 - (2 + sizeL l)) 0))) ∧ Chg Non w w' := by
 have hs := fun W h => size_any A l cap W h (by omega) hl
 obtain ⟨z, hz⟩ : ∃ z, sizeL l = z := ⟨_, rfl⟩
 rw [hz] at hs h58 ⊢
 unfold maxLen at hm
 clear hz
 obtain ⟨b, o, rfl, hb, hcell⟩ := hr.at_ (by omega)
 clear hcell
 have i1 : IntKind.i64.wrap (2 + (z : Int)) = 2 + (z : Int) := IntWalk.i64_in _ (by omega)
 have i2 : (0 : Int) ≤ 2 + (z : Int) := by omega
 have i3 : (2 + (z : Int)).toNat = 2 + z := by omega
 have hmk := fun W => mk_bytes ((60 - (2 + z) : Nat) : Int) (by omega) (by omega) W
 simp only [Int.toNat_natCast] at hmk
 have hS := fun B d W h k => Same_any (some ⟨b, o + (2 + z), none⟩) B ((l.drop (2 + z)).take (60 - (2 + z))) (List.replicate (60 - (2 + z)) 0) (cap - (2 + z)) d W h k
 have hl1 : ((l.drop (2 + z)).take (60 - (2 + z))).length = 60 - (2 + z) := by rw [List.length_take, List.length_drop]; omega
 rw [hl1, List.length_replicate] at hS
 clear hl1
 go_enter Tryz.func216, Tryz.ntmps216
 go_wp2_with fail
 go_quiet ((go_at_call 169; exact quiet_left (hs _ hr)))
 go_wp2_with fail
 refine (hS _ _ _ (by exact (((hr.drop (2 + z)).take (60 - (2 + z))).drewN nq).non ((Chg.refl _ _).alloc _)) (by exact (zeros_own (w.drewN nq) (60 - (2 + z)) 5).rd)).mono ?_
 rintro e w2 ⟨rfl, rfl⟩
 go_wp2
 go_ret
 exact ⟨rfl, ((Chg.refl _ _).drewN nq).alloc _⟩
set_option maxRecDepth 100000 in
theorem whole_any (A : Option Addr) (l : List UInt8) (cap : Nat) (w : World) (hr : Rd w A l) (h64 : 64 ≤ l.length) (hl : l.length ≤ 64) (hcap : l.length ≤ cap) (hm : cap ≤ maxLen) :
  Calls Tryz.prog 196 #[.slice A l.length cap] w fun e w' => e = .returned (.bool (wholeL l)) ∧ Chg Non w w' := by
 have x0 : ∀ (f1 f2 f3 f4 : Value) (W : World), (Instr.index 263 (.agg #[f1, f2, f3, f4]) (.int .i64 0)).run Tryz.prog W = .ok f1 W := fun _ _ _ _ _ => by kernel_rfl
 have x1 : ∀ (f1 f2 f3 f4 : Value) (W : World), (Instr.index 263 (.agg #[f1, f2, f3, f4]) (.int .i64 1)).run Tryz.prog W = .ok f2 W := fun _ _ _ _ _ => by kernel_rfl
 have x2 : ∀ (f1 f2 f3 f4 : Value) (W : World), (Instr.index 263 (.agg #[f1, f2, f3, f4]) (.int .i64 2)).run Tryz.prog W = .ok f3 W := fun _ _ _ _ _ => by kernel_rfl
 have x3 : ∀ (f1 f2 f3 f4 : Value) (W : World), (Instr.index 263 (.agg #[f1, f2, f3, f4]) (.int .i64 3)).run Tryz.prog W = .ok f4 W := fun _ _ _ _ _ => by kernel_rfl
 have hp0 : ∀ o, ((w.alloc (.cells #[.slice A l.length cap] 29)).alloc o).cell? ⟨w.heap.size, 0, none⟩ = some (.slice A l.length cap) := fun o => by
  simp only [World.cell?]; rw [heap_alloc2_old]; rfl
 have HP := Lib.hid hp0
 clear hp0
 have hW : wholeL l = (crcOk l && (decide (sizeL l ≤ 58) && decide ((l.drop (2 + sizeL l)).take (60 - (2 + sizeL l)) = List.replicate (60 - (2 + sizeL l)) 0))) := by
  unfold wholeL
  rw [decide_eq_true (show l.length = 64 by omega)]
  rfl
 have HW := Lib.hid hW
 clear hW
 have h64d : decide (l.length = 64) = true := decide_eq_true (by omega)
 have H64 := Lib.hid h64d
 clear h64d
 have w1 := fun W h => whole1 w.heap.size A l cap W h
 rw [H64.out] at w1
 have w2 := fun W h k => whole2 w.heap.size A l cap W h k h64 hl hcap hm
 have w3 := fun W h k => whole3 w.heap.size A l cap W h k h64 hl
 have w4 := fun W h k z => whole4 w.heap.size A l cap W h k h64 hl hcap hm z
 have hsz : ∀ o, ((w.alloc (.cells #[.slice A l.length cap] 29)).alloc o).heap.size = w.heap.size + 1 + 1 := fun o => by simp
 have HSz := Lib.hid hsz
 clear hsz
 obtain ⟨zb, hz⟩ : ∃ zb, decide ((l.drop (2 + sizeL l)).take (60 - (2 + sizeL l)) = List.replicate (60 - (2 + sizeL l)) 0) = zb := ⟨_, rfl⟩
 rw [hz] at w4 HW
 clear hz
 have hs3 : decide (sizeL l ≤ 58) = true ∨ decide (sizeL l ≤ 58) = false := by cases decide (sizeL l ≤ 58) <;> simp
 have hs4 : decide (sizeL l ≤ 58) = true → sizeL l ≤ 58 := fun h => of_decide_eq_true h
 obtain ⟨sb, hs⟩ : ∃ sb, decide (sizeL l ≤ 58) = sb := ⟨_, rfl⟩
 rw [hs] at w3 HW hs3 hs4
 clear hs
 obtain ⟨cb, hc⟩ : ∃ cb, crcOk l = cb := ⟨_, rfl⟩
 rw [hc] at w2 HW
 clear hc
 rw [HW.out]
 have W1 := Lib.hid w1
 have W2 := Lib.hid w2
 have W3 := Lib.hid w3
 have W4 := Lib.hid w4
 clear w1 w2 w3 w4
 cases cb with
 | false =>
  go_enter Tryz.func196, Tryz.ntmps196
  go_wp2_with fail
  refine wp_loop_rounds 5 ?_
  rw [rounds_succ]
  go_wp2_with fail
  refine (W1.out _ (HP.out _)).mono ?_
  rintro e w' ⟨rfl, rfl⟩
  go_wp2
  rw [rounds_succ]
  go_wp2_with fail
  refine (W2.out _ (HP.out _) (hr.non (((Chg.refl _ _).alloc _).alloc _))).mono ?_
  rintro e w' ⟨rfl, hg⟩
  go_wp2
  go_ret
  exact ⟨rfl, (((Chg.refl _ _).alloc _).alloc _).then_non hg⟩
 | true =>
  rcases hs3 with rfl | rfl
  ·have hz58 := hs4 rfl
   clear hs4
   cases zb with
   | true =>
    go_enter Tryz.func196, Tryz.ntmps196
    go_wp2_with fail
    refine wp_loop_rounds 5 ?_
    rw [rounds_succ]
    go_wp2_with fail
    refine (W1.out _ (HP.out _)).mono ?_
    rintro e w' ⟨rfl, rfl⟩
    go_wp2
    rw [rounds_succ]
    go_wp2_with fail
    refine (W2.out _ (HP.out _) (hr.non (((Chg.refl _ _).alloc _).alloc _))).mono ?_
    rintro e w' ⟨rfl, hg⟩
    have hgw := (((Chg.refl Non w).alloc (.cells #[.slice A l.length cap] 29)).alloc _).then_non hg
    have hcw := hg.cell_some (HP.out _) (fun e => e)
    clear hg
    go_wp2
    rw [rounds_succ]
    go_wp2_with fail
    refine (W3.out _ hcw (hr.non hgw)).mono ?_
    rintro e w'' ⟨rfl, rfl⟩
    go_wp2
    rw [rounds_succ]
    go_wp2_with fail
    refine (W4.out _ hcw (hr.non hgw) hz58).mono ?_
    rintro e w2 ⟨rfl, hg2⟩
    go_wp2
    rw [rounds_succ]
    go_wp2
    go_ret
    exact ⟨rfl, hgw.then_non hg2⟩
   | false =>
    go_enter Tryz.func196, Tryz.ntmps196
    go_wp2_with fail
    refine wp_loop_rounds 5 ?_
    rw [rounds_succ]
    go_wp2_with fail
    refine (W1.out _ (HP.out _)).mono ?_
    rintro e w' ⟨rfl, rfl⟩
    go_wp2
    rw [rounds_succ]
    go_wp2_with fail
    refine (W2.out _ (HP.out _) (hr.non (((Chg.refl _ _).alloc _).alloc _))).mono ?_
    rintro e w' ⟨rfl, hg⟩
    have hgw := (((Chg.refl Non w).alloc (.cells #[.slice A l.length cap] 29)).alloc _).then_non hg
    have hcw := hg.cell_some (HP.out _) (fun e => e)
    clear hg
    go_wp2
    rw [rounds_succ]
    go_wp2_with fail
    refine (W3.out _ hcw (hr.non hgw)).mono ?_
    rintro e w'' ⟨rfl, rfl⟩
    go_wp2
    rw [rounds_succ]
    go_wp2_with fail
    refine (W4.out _ hcw (hr.non hgw) hz58).mono ?_
    rintro e w2 ⟨rfl, hg2⟩
    go_wp2
    go_ret
    exact ⟨rfl, hgw.then_non hg2⟩
  ·clear hs4
   go_enter Tryz.func196, Tryz.ntmps196
   go_wp2_with fail
   refine wp_loop_rounds 5 ?_
   rw [rounds_succ]
   go_wp2_with fail
   refine (W1.out _ (HP.out _)).mono ?_
   rintro e w' ⟨rfl, rfl⟩
   go_wp2
   rw [rounds_succ]
   go_wp2_with fail
   refine (W2.out _ (HP.out _) (hr.non (((Chg.refl _ _).alloc _).alloc _))).mono ?_
   rintro e w' ⟨rfl, hg⟩
   have hgw := (((Chg.refl Non w).alloc (.cells #[.slice A l.length cap] 29)).alloc _).then_non hg
   have hcw := hg.cell_some (HP.out _) (fun e => e)
   clear hg
   go_wp2
   rw [rounds_succ]
   go_wp2_with fail
   refine (W3.out _ hcw (hr.non hgw)).mono ?_
   rintro e w'' ⟨rfl, rfl⟩
   go_wp2
   go_ret
   exact ⟨rfl, hgw⟩
end
section
open Go.RowKit
def openL (kind : UInt8) (s : List UInt8) : Option (List UInt8) := if wholeL s = true ∧ s.getD 0 0 = kind then some ((s.drop 2).take (sizeL s)) else none
theorem wholeL_size {s : List UInt8} (h : wholeL s = true) : sizeL s ≤ 58 := by
 unfold wholeL at h
 simp only [Bool.and_eq_true, decide_eq_true_eq] at h
 exact h.2.2.1
set_option maxRecDepth 100000 in
theorem Kind_any (A : Option Addr) (l : List UInt8) (cap : Nat) (w : World) (hr : Rd w A l) (h64 : 64 ≤ l.length) (hl : l.length ≤ 64) (hcap : l.length ≤ cap) (hm : cap ≤ maxLen) :
  Calls Tryz.prog 168 #[.slice A l.length cap] w fun e w' => e = .returned (.tuple #[.int .u8 (if wholeL l then ((l.getD 0 0).toNat : Int) else 0), .bool (wholeL l)]) ∧ Chg Non w w' := by
 have hw := fun W h => whole_any A l cap W h h64 hl hcap hm
 have HW := Lib.hid hw
 clear hw
 obtain ⟨b, o, rfl, hb, hc⟩ := hr.at_ (by omega)
 have h0 := hc 0 (by omega)
 have hs : (l[0]'(by omega)).toNat = (l.getD 0 0).toNat := by simp [List.getD, List.getElem?_eq_getElem (show 0 < l.length by omega)]
 rw [hs, Nat.add_zero] at h0
 obtain ⟨x, hx⟩ : ∃ x, (l.getD 0 0) = x := ⟨_, rfl⟩
 rw [hx] at h0 ⊢
 clear hc hs hx
 obtain ⟨z, hz⟩ : ∃ z, wholeL l = z := ⟨_, rfl⟩
 rw [hz] at HW ⊢
 clear hz
 cases z with
 | false =>
  go_enter Tryz.func168, Tryz.ntmps168
  go_wp2_with fail
  refine (HW.out w hr).mono ?_
  rintro e w1 ⟨rfl, hg⟩
  go_wp2
  go_ret2
  exact ⟨rfl, hg⟩
 | true =>
  go_enter Tryz.func168, Tryz.ntmps168
  go_wp2_with fail
  refine (HW.out w hr).mono ?_
  rintro e w1 ⟨rfl, hg⟩
  have h1 := hg.cell_some h0 (fun e => e)
  go_wp2
  go_ret2
  exact ⟨rfl, hg⟩
set_option maxRecDepth 100000 in
theorem Open_some (kind : UInt8) (A : Option Addr) (l m : List UInt8) (cap : Nat) (w : World) (hr : Rd w A l) (h64 : 64 ≤ l.length) (hl : l.length ≤ 64) (hcap : l.length ≤ cap) (hm : cap ≤ maxLen) (ho : openL kind l = some m) :
  Calls Tryz.prog 140 #[.int .u8 (kind.toNat : Int), .slice A l.length cap] w (RetB2 w m (.int .i64 0)) := by
 have hk := fun W h => Kind_any A l cap W h h64 hl hcap hm
 unfold openL at ho
 by_cases hq : wholeL l = true ∧ l.getD 0 0 = kind
 ·rw [if_pos hq] at ho
  obtain ⟨hq1, hq2⟩ := hq
  injection ho with ho
  have h58 := wholeL_size hq1
  simp only [hq1, if_true, hq2] at hk
  have HK := Lib.hid hk
  have hsz := fun W h => size_any A l cap W h (by omega) hl
  have hml : m.length = sizeL l := by rw [← ho, List.length_take, List.length_drop]; omega
  obtain ⟨z, hz⟩ : ∃ z, sizeL l = z := ⟨_, rfl⟩
  rw [hz] at hsz h58 ho hml
  have HZ := Lib.hid hsz
  clear hk hsz hz hq1 hq2
  subst hml
  have HO := Lib.hid ho
  clear ho
  obtain ⟨b, o, rfl, hb, hc⟩ := hr.at_ (by omega)
  clear hc
  unfold maxLen at hm
  have hr2 : Rd w (some ⟨b, o + 2, none⟩) m := by
   have := (hr.drop 2).take m.length
   rw [HO.out] at this
   exact this
  have h58' : (m.length : Int) ≤ 58 := by omega
  have hkk := kind.toNat_lt
  have hkx : (((kind.toNat : Int)) != (kind.toNat : Int)) = false := by simp
  go_enter Tryz.func140, Tryz.ntmps140
  go_wp2_with fail
  refine (HK.out w hr).mono ?_
  rintro e w1 ⟨rfl, hg⟩
  go_wp2_with fail
  refine (HZ.out w1 (hr.non hg)).mono ?_
  rintro e w2 ⟨rfl, rfl⟩
  go_wp2_with fail
  refine (Cat1 (some ⟨b, o + 2, none⟩) m (cap - 2) _ w1 _ rfl (hr2.non hg) (by omega)).mono ?_
  rintro e w3 ⟨A3, c3, rfl, hc3, hm3, ho3, hg3⟩
  go_wp2
  go_ret2
  exact ⟨A3, c3, rfl, hc3, hm3, ho3.mono hg.size, hg.then_non hg3⟩
 ·rw [if_neg hq] at ho
  cases ho
set_option maxRecDepth 100000 in
theorem Open_none (kind : UInt8) (A : Option Addr) (l : List UInt8) (cap : Nat) (w : World) (hr : Rd w A l) (h64 : 64 ≤ l.length) (hl : l.length ≤ 64) (hcap : l.length ≤ cap) (hm : cap ≤ maxLen) (ho : openL kind l = none) :
  Calls Tryz.prog 140 #[.int .u8 (kind.toNat : Int), .slice A l.length cap] w fun e w' => e = .returned (.tuple #[.slice none 0 0, .int .i64 70]) ∧ Chg Non w w' := by
 have hk := fun W h => Kind_any A l cap W h h64 hl hcap hm
 unfold openL at ho
 cases hz : wholeL l with
 | false =>
  rw [hz] at hk
  have HK := Lib.hid hk
  clear hk hz ho
  go_enter Tryz.func140, Tryz.ntmps140
  go_wp2_with fail
  refine (HK.out w hr).mono ?_
  rintro e w1 ⟨rfl, hg⟩
  go_wp2
  go_ret2
  exact ⟨rfl, hg⟩
 | true =>
  rw [hz] at hk ho
  have hne : l.getD 0 0 ≠ kind := by
   intro h
   simp only [h, and_self, if_true] at ho
   cases ho
  obtain ⟨x, hx⟩ : ∃ x, l.getD 0 0 = x := ⟨_, rfl⟩
  rw [hx] at hk hne
  have hd : ((x.toNat : Int) != (kind.toNat : Int)) = true := by
   rw [bne_iff_ne]
   intro h
   exact hne (UInt8.toNat_inj.1 (by omega))
  simp only [if_true] at hk
  have HK := Lib.hid hk
  clear hk hz ho hx hne
  go_enter Tryz.func140, Tryz.ntmps140
  go_wp2_with fail
  refine (HK.out w hr).mono ?_
  rintro e w1 ⟨rfl, hg⟩
  go_wp2
  go_ret2
  exact ⟨rfl, hg⟩
end
section
open Go.RowKit
def IsW (B : Nat) (w : World) (p : Nat) (l : List UInt8) (er : Int) : Prop :=
 B ≤ p ∧ ∃ v, w.heap[p]? = some (.cells #[v, .bool true, .int .i64 er] 175 (0, 0)) ∧ w.ownsRow B 5 1 v l.length (l.map bv)
set_option maxRecDepth 100000 in
theorem wnone_any (p : Nat) (v : Value) (er : Int) (w : World) (hb : w.heap[p]? = some (.cells #[v, .bool true, .int .i64 er] 175 (0, 0))) :
  Calls Tryz.prog 114 #[.pointer (some ⟨p, 0, none⟩)] w fun e w' => e = .returned (.bool false) ∧ w = w' := by
 have h1 : w.cell? ⟨p, 1, none⟩ = some (.bool true) := by rw [cell_of_row _ _ _ _ _ _ hb]; rfl
 clear hb
 go_enter Tryz.func114, Tryz.ntmps114
 go_wp2
 go_ret
 exact ⟨rfl, rfl⟩
set_option maxRecDepth 100000 in
theorem NewWriter_any (w : World) :
  Calls Tryz.prog 66 #[] w fun e w' => e = .returned (.pointer (some ⟨w.heap.size, 0, none⟩)) ∧ IsW w.heap.size w' w.heap.size [] 0 ∧ Chg Non w w' := by
 go_enter Tryz.func66, Tryz.ntmps66
 go_wp2
 go_ret
 exact ⟨rfl, ⟨Nat.le_refl _, _, heap_alloc_new _ _, World.ownsRow_nil _ _ _ _⟩, (Chg.refl _ _).alloc _⟩
theorem own_chg {w w' : World} {B : Nat} {e : TypeId} {size : Nat} {v : Value} {n : Nat} {xs : List Value} (h : w.ownsRow B e size v n xs) (hg : Chg Non w w') : w'.ownsRow B e size v n xs :=
 h.kept (row := none) ⟨hg.os, hg.tape, hg.output, hg.size, fun k hk _ => hg.block k hk (fun e => e)⟩ (by cases v.ownBlock <;> simp)
theorem own_ne {w : World} {B : Nat} {e t : TypeId} {size : Nat} {v : Value} {n g : Nat} {xs : List Value} {cs : Array Value} {fr : Nat × Nat} (h : w.ownsRow B e size v n xs) (hg : w.heap[g]? = some (.cells cs t fr)) (hne : e ≠ t) : v.ownBlock ≠ some g := by
 rcases h.2 with ⟨rfl, _⟩ | ⟨g', cap, cur, rfl, _, hh, _⟩
 ·simp [Value.ownBlock]
 ·intro he
  have : g' = g := by simpa [Value.ownBlock] using he
  subst this
  rw [hg] at hh
  injection hh with hh
  injection hh with _ ht
  exact hne ht.symm
theorem own_reads {B : Nat} {w : World} {v : Value} {l : List UInt8} (h : w.ownsRow B 5 1 v l.length (l.map bv)) : ∃ A c, v = .slice A l.length c ∧ Rd w A l := by
 rcases h.2 with ⟨rfl, h0⟩ | ⟨g, cap, cur, rfl, _⟩
 ·have : l = [] := List.eq_nil_of_length_eq_zero h0
  subst this
  exact ⟨none, 0, rfl, Rd.nil _ _⟩
 ·refine ⟨_, cap, rfl, fun i x hx => ⟨g, 0, rfl, ?_⟩⟩
  have := h.cells (g := g) rfl i (bv x) (by rw [List.getElem?_map, hx]; rfl)
  rw [add_plain] at this
  exact this
theorem news_of {w : World} {b o : Nat} {m : List UInt8} (h : ∀ i (hi : i < m.length), w.cell? ⟨b, o + i, none⟩ = some (.int .u8 (m[i].toNat : Int))) :
  ∀ j u, (m.map bv)[j]? = some u → w.cell? ((⟨b, o, none⟩ : Addr).add j) = some u := by
 intro j u hu
 rw [List.getElem?_map] at hu
 obtain ⟨x, hx, rfl⟩ := Option.map_eq_some_iff.1 hu
 obtain ⟨hj, rfl⟩ := List.getElem?_eq_some_iff.1 hx
 rw [add_plain]
 exact h j hj
theorem bv_one (m : List UInt8) : ∀ u ∈ m.map bv, u.oneCell' = true := by
 intro u hu
 obtain ⟨x, _, rfl⟩ := List.mem_map.1 hu
 rfl
theorem cat_take_len (ps : List (Option Addr × List UInt8 × Nat)) (k : Nat) (h : k < ps.length) : (cat (ps.take (k + 1))).length = (cat (ps.take k)).length + (ps[k]'h).2.1.length := by
 unfold cat
 rw [List.take_succ_eq_append_getElem h, List.map_append, List.flatten_append, List.length_append]
 simp only [List.map_cons, List.map_nil, List.flatten_cons, List.flatten_nil, List.append_nil]
theorem cat_take_le (ps : List (Option Addr × List UInt8 × Nat)) (k : Nat) : (cat (ps.take k)).length ≤ (cat ps).length := by
 have h : cat ps = cat (ps.take k) ++ cat (ps.drop k) := by
  unfold cat
  rw [← List.flatten_append, ← List.map_append, List.take_append_drop]
 rw [h, List.length_append]
 omega
def u64 (n : Int) : Nat := (n % 18446744073709551616).toNat
theorem u64_lt (n : Int) : u64 n < 18446744073709551616 := by unfold u64; omega
theorem u64_cast (n : Int) : ((u64 n : Nat) : Int) = IntKind.u64.wrap n := by
 have : IntKind.u64.wrap n = n % 18446744073709551616 := by simp [IntKind.wrap, IntKind.bits, IntKind.signed]
 rw [this]; unfold u64; omega
end
section
open Go.RowKit
def IsR (w : World) (p : Nat) (l : List UInt8) (er : Int) : Prop :=
 ∃ A c, w.heap[p]? = some (.cells #[.slice A l.length c, .bool true, .int .i64 er] 226 (0, 0)) ∧ Rd w A l ∧ l.length ≤ c ∧ c ≤ maxLen
def At (p : Nat) : Nat → Prop := fun k => k = p
theorem rd_ne {w : World} {p : Nat} {A : Option Addr} {l : List UInt8} {v : Value} {er : Int} {t : TypeId} {fr : Nat × Nat} (hb : w.heap[p]? = some (.cells #[v, .bool true, .int .i64 er] t fr)) (hv : ∀ x : UInt8, v ≠ .int .u8 (x.toNat : Int)) (h : Rd w A l) :
  ∀ b o, A = some ⟨b, o, none⟩ → l ≠ [] → ¬ At p b := by
 rintro b o rfl hne rfl
 obtain ⟨x, r, rfl⟩ := List.exists_cons_of_ne_nil hne
 obtain ⟨b', o', e, hc⟩ := h 0 x rfl
 injection e with e
 injection e with e1 e2
 subst e1 e2
 rw [cell_of_row _ _ _ _ _ _ hb] at hc
 have hn := hv x
 match h' : o + 0, hc with
 | 0, hc => simp at hc; exact hn hc
 | 1, hc => simp at hc
 | 2, hc => simp at hc
 | n + 3, hc => simp at hc
theorem IsR.lt {w : World} {p : Nat} {l : List UInt8} {er : Int} (h : IsR w p l er) : p < w.heap.size := by
 obtain ⟨A, c, hb, _⟩ := h
 exact (Array.getElem?_eq_some_iff.1 hb).1
set_option maxRecDepth 100000 in
theorem rwhole_any (p : Nat) (l : List UInt8) (er : Int) (w : World) (hR : IsR w p l er) :
  Calls Tryz.prog 200 #[.pointer (some ⟨p, 0, none⟩)] w fun e w' => e = .returned (.bool (er == 0)) ∧ w = w' := by
 obtain ⟨A, c, hb, hr, hc⟩ := hR
 have h1 : w.cell? ⟨p, 1, none⟩ = some (.bool true) := by rw [cell_of_row _ _ _ _ _ _ hb]; rfl
 have h2 : w.cell? ⟨p, 2, none⟩ = some (.int .i64 er) := by rw [cell_of_row _ _ _ _ _ _ hb]; rfl
 clear hb
 go_enter Tryz.func200, Tryz.ntmps200
 go_wp2
 go_ret
 exact ⟨rfl, rfl⟩
set_option maxRecDepth 100000 in
theorem breaks_ok (p : Nat) (l : List UInt8) (w : World) (hR : IsR w p l 0) :
  Calls Tryz.prog 198 #[.pointer (some ⟨p, 0, none⟩)] w fun e w' => e = .returned (.tuple #[]) ∧ IsR w' p [] 50 ∧ Chg (At p) w w' := by
 have hw := rwhole_any p l 0 w hR
 obtain ⟨A, c, hb, hr, hc⟩ := hR
 have h0 : w.cell? ⟨p, 0, none⟩ = some (.slice A l.length c) := by rw [cell_of_row _ _ _ _ _ _ hb]; rfl
 have h2 : w.cell? ⟨p, 2, none⟩ = some (.int .i64 0) := by rw [cell_of_row _ _ _ _ _ _ hb]; rfl
 have f0 : w.frozen? ⟨p, 0, none⟩ = false := frozen_of_row _ _ _ _ _ hb
 have f2 : w.frozen? ⟨p, 2, none⟩ = false := frozen_of_row _ _ _ _ _ hb
 have HB := Lib.hid hb
 have HW := Lib.hid hw
 clear hb hw
 go_enter Tryz.func198, Tryz.ntmps198
 go_wp2_with fail
 refine HW.out.mono ?_
 rintro e w' ⟨rfl, rfl⟩
 go_wp2
 go_end0
 refine ⟨rfl, ⟨none, 0, ?_, Rd.nil _ _, by simp, by simp⟩, ((Chg.refl (At p) _).setCell (p := ⟨p, 0, none⟩) (.inl rfl) _).setCell (p := ⟨p, 2, none⟩) (.inl rfl) _⟩
 rw [heap_setCell_same _ _ _ _ _ _ (heap_setCell_same _ _ _ _ _ _ HB.out)]
 rfl
set_option maxRecDepth 100000 in
theorem breaks_no (p : Nat) (l : List UInt8) (er : Int) (w : World) (hR : IsR w p l er) (he : er ≠ 0) :
  Calls Tryz.prog 198 #[.pointer (some ⟨p, 0, none⟩)] w fun e w' => e = .returned (.tuple #[]) ∧ w = w' := by
 have hw := rwhole_any p l er w hR
 rw [show (er == 0) = false by simpa using he] at hw
 have HW := Lib.hid hw
 clear hw
 go_enter Tryz.func198, Tryz.ntmps198
 go_wp2_with fail
 refine HW.out.mono ?_
 rintro e w' ⟨rfl, rfl⟩
 go_wp2
 go_end0
 exact ⟨rfl, rfl⟩
theorem take_ne {l : List UInt8} {n : Nat} (h : l.take n ≠ []) : l ≠ [] := by rintro rfl; simp at h
theorem take_close {w : World} {p n c : Nat} {A : Option Addr} {l : List UInt8} (hb : w.heap[p]? = some (.cells #[.slice A l.length c, .bool true, .int .i64 0] 226 (0, 0))) (hr : Rd w A l) (hn : n ≤ l.length)
  (hc : l.length ≤ c) (hm : c ≤ maxLen) (X : Option Addr) (hX : l.drop n ≠ [] → X = A.map (·.add n)) (d : Nat) (hd1 : l.length - n ≤ d) (hd2 : d ≤ maxLen) :
  IsR (w.setCell ⟨p, 0, none⟩ (.slice X (l.length - n) d)) p (l.drop n) 0 ∧ Chg (At p) w (w.setCell ⟨p, 0, none⟩ (.slice X (l.length - n) d)) := by
 have hne := rd_ne hb (fun x => by simp) hr
 have hg : Chg (At p) w (w.setCell ⟨p, 0, none⟩ (.slice X (l.length - n) d)) := (Chg.refl (At p) _).setCell (p := ⟨p, 0, none⟩) (.inl rfl) _
 have hrd : Rd w X (l.drop n) := by
  by_cases h : l.drop n = []
  ·rw [h]; exact Rd.nil _ _
  ·rw [hX h]
   have h0 : 0 < l.length := by
    rcases Nat.eq_zero_or_pos l.length with h0 | h0
    ·exact absurd (List.drop_of_length_le (by omega)) h
    ·exact h0
   obtain ⟨b, o, rfl, _, _⟩ := hr.at_ h0
   simp only [Option.map_some, add_plain]
   exact hr.drop n
 refine ⟨⟨X, d, ?_, hrd.keep hg ?_, by rw [List.length_drop]; exact hd1, hd2⟩, hg⟩
 ·rw [heap_setCell_same _ _ _ _ _ _ hb, List.length_drop]; rfl
 ·intro b o e h
  rw [hX h] at e
  obtain ⟨a, ha, e'⟩ := Option.map_eq_some_iff.1 e
  have h0 : l ≠ [] := by rintro rfl; simp at h
  obtain ⟨b', o', rfl, _, _⟩ := hr.at_ (List.length_pos_iff.2 h0)
  injection ha with ha
  subst ha
  rw [add_plain] at e'
  injection e' with e1 e2
  subst e1
  exact hne _ _ rfl h0
set_option maxRecDepth 100000 in
theorem take_short (p n : Nat) (l : List UInt8) (w : World) (hR : IsR w p l 0) (hn : l.length < n) :
  Calls Tryz.prog 197 #[.pointer (some ⟨p, 0, none⟩), .int .i64 n] w fun e w' => e = .returned (.tuple #[.slice none 0 0, .bool false]) ∧ IsR w' p [] 50 ∧ Chg (At p) w w' := by
 have hw := rwhole_any p l 0 w hR
 have hbr := breaks_ok p l w hR
 obtain ⟨A, c, hb, hr, hc, hm⟩ := hR
 have h0 : w.cell? ⟨p, 0, none⟩ = some (.slice A l.length c) := by rw [cell_of_row _ _ _ _ _ _ hb]; rfl
 have HB := Lib.hid hb
 have HW := Lib.hid hw
 have HBr := Lib.hid hbr
 clear hb hw hbr
 have hd : decide ((n : Int) > l.length) = true := by simp; omega
 go_enter Tryz.func197, Tryz.ntmps197
 go_wp2_with fail
 refine HW.out.mono ?_
 rintro e w' ⟨rfl, rfl⟩
 go_wp2_with fail
 refine HBr.out.mono ?_
 rintro e w' ⟨rfl, hR, hg⟩
 go_wp2
 go_ret2
 exact ⟨rfl, hR, hg⟩
set_option maxRecDepth 100000 in
theorem take_broken (p : Nat) (n : Int) (l : List UInt8) (er : Int) (w : World) (hR : IsR w p l er) (he : er ≠ 0) :
  Calls Tryz.prog 197 #[.pointer (some ⟨p, 0, none⟩), .int .i64 n] w fun e w' => e = .returned (.tuple #[.slice none 0 0, .bool false]) ∧ w = w' := by
 have hw := rwhole_any p l er w hR
 rw [show (er == 0) = false by simpa using he] at hw
 have hbr := breaks_no p l er w hR he
 have HW := Lib.hid hw
 have HBr := Lib.hid hbr
 clear hw hbr
 go_enter Tryz.func197, Tryz.ntmps197
 go_wp2_with fail
 refine HW.out.mono ?_
 rintro e w' ⟨rfl, rfl⟩
 go_wp2_with fail
 refine HBr.out.mono ?_
 rintro e w' ⟨rfl, rfl⟩
 go_wp2
 go_ret2
 exact ⟨rfl, rfl⟩
def i64 (n : Nat) : Int := wrap64 n
set_option maxRecDepth 100000 in
theorem Int1_ok (A : Option Addr) (l : List UInt8) (w : World) (hr : Rd w A l) (hl : l.length = 8) :
  Calls Tryz.prog 171 #[.slice A 8 8] w fun e w' => e = .returned (.tuple #[.int .i64 (i64 (num l)), .bool true]) ∧ w = w' := by
 have hld := Load64_ok A l 8 w hr hl (by omega) (by omega)
 have e : i64 (num l) = wrap64 (num l : Nat) := rfl
 have HL := Lib.hid hld
 have HE := Lib.hid e
 clear hld e
 obtain ⟨x, hx⟩ : ∃ x, num l = x := ⟨_, rfl⟩
 rw [hx] at HL HE ⊢
 clear hx
 go_enter Tryz.func171, Tryz.ntmps171
 go_wp2_with fail
 refine HL.out.mono ?_
 rintro e w' ⟨rfl, rfl⟩
 go_wp2
 go_ret2
 rw [HE.out]
 exact ⟨rfl, rfl⟩
def rdInt (l : List UInt8) (er : Int) : Int × List UInt8 × Int :=
 if er = 0 then (if 8 ≤ l.length then (i64 (num (l.take 8)), l.drop 8, 0) else (0, [], 50)) else (0, l, er)
set_option maxRecDepth 100000 in
theorem End_any (p : Nat) (l : List UInt8) (er : Int) (w : World) (hR : IsR w p l er) :
  Calls Tryz.prog 144 #[.pointer (some ⟨p, 0, none⟩)] w fun e w' => e = .returned (.int .i64 (if er = 0 ∧ l ≠ [] then 50 else er)) ∧ w = w' := by
 have hw := rwhole_any p l er w hR
 obtain ⟨A, c, hb, hr, hc, hm⟩ := hR
 have h0 : w.cell? ⟨p, 0, none⟩ = some (.slice A l.length c) := by rw [cell_of_row _ _ _ _ _ _ hb]; rfl
 have h1 : w.cell? ⟨p, 1, none⟩ = some (.bool true) := by rw [cell_of_row _ _ _ _ _ _ hb]; rfl
 have h2 : w.cell? ⟨p, 2, none⟩ = some (.int .i64 er) := by rw [cell_of_row _ _ _ _ _ _ hb]; rfl
 clear hb
 unfold maxLen at hm
 have HW := Lib.hid hw
 clear hw
 -- Left
 have hleft : Calls Tryz.prog 175 #[.pointer (some ⟨p, 0, none⟩)] w fun e w' => e = .returned (.int .i64 (if er = 0 then (l.length : Int) else 0)) ∧ w = w' := by
  by_cases he : er = 0
  ·subst he
   go_enter Tryz.func175, Tryz.ntmps175
   go_wp2_with fail
   refine HW.out.mono ?_
   rintro e w1 ⟨rfl, rfl⟩
   go_wp2
   go_ret
   exact ⟨rfl, rfl⟩
  ·have hd : (er == 0) = false := by simpa using he
   simp only [he, if_false]
   go_enter Tryz.func175, Tryz.ntmps175
   go_wp2_with fail
   refine HW.out.mono ?_
   rintro e w1 ⟨rfl, rfl⟩
   go_wp2
   go_ret
   exact ⟨rfl, rfl⟩
 have herr : Calls Tryz.prog 176 #[.pointer (some ⟨p, 0, none⟩)] w fun e w' => e = .returned (.int .i64 er) ∧ w = w' := by
  go_enter Tryz.func176, Tryz.ntmps176
  go_wp2
  go_ret
  exact ⟨rfl, rfl⟩
 have HL := Lib.hid hleft
 have HE := Lib.hid herr
 clear hleft herr
 by_cases hq : er = 0 ∧ l ≠ []
 ·rw [if_pos hq]
  obtain ⟨rfl, hne⟩ := hq
  have hpos : 0 < l.length := List.length_pos_iff.2 hne
  simp only [if_true] at HL
  go_enter Tryz.func144, Tryz.ntmps144
  go_wp2_with fail
  refine HL.out.mono ?_
  rintro e w1 ⟨rfl, rfl⟩
  go_wp2
  go_ret
  exact ⟨rfl, rfl⟩
 ·rw [if_neg hq]
  have hz : (if er = 0 then (l.length : Int) else 0) = 0 := by
   by_cases he : er = 0
   ·subst he
    have : l = [] := by
     rcases l with _ | ⟨x, r⟩
     ·rfl
     ·exact absurd ⟨rfl, by simp⟩ hq
    subst this
    rfl
   ·simp [he]
  rw [hz] at HL
  clear hq hz
  go_enter Tryz.func144, Tryz.ntmps144
  go_wp2_with fail
  refine HL.out.mono ?_
  rintro e w1 ⟨rfl, rfl⟩
  go_wp2_with fail
  refine HE.out.mono ?_
  rintro e w1 ⟨rfl, rfl⟩
  go_wp2
  go_ret
  exact ⟨rfl, rfl⟩
set_option maxRecDepth 100000 in
theorem NewReader_ok (A : Option Addr) (l : List UInt8) (c : Nat) (w : World) (hr : Rd w A l) (hl : l.length ≤ 65536) :
  Calls Tryz.prog 141 #[.slice A l.length c] w fun e w' => e = .returned (.pointer (some ⟨w.heap.size, 0, none⟩)) ∧ IsR w' w.heap.size l 0 ∧ Chg Non w w' := by
 have hd : decide ((l.length : Int) > 65536) = false := by simp; omega
 go_enter Tryz.func141, Tryz.ntmps141
 go_wp2_with fail
 refine (Cat1 A l c _ _ _ (by simp) (hr.non ((Chg.refl _ _).alloc _)) (by omega)).mono ?_
 rintro e w1 ⟨A1, c1, rfl, hc1, hm1, ho1, hg1⟩
 have hb1 : w1.heap[w.heap.size]? = some (.cells #[.slice none 0 0, .bool true, .int .i64 0] 226 (0, 0)) := (hg1.block _ (by simp) (fun e => e)).trans (heap_alloc_new _ _)
 have h0 : w1.cell? ⟨w.heap.size, 0, none⟩ = some (.slice none 0 0) := by rw [cell_of_row _ _ _ _ _ _ hb1]; rfl
 have f0 : w1.frozen? ⟨w.heap.size, 0, none⟩ = false := frozen_of_row _ _ _ _ _ hb1
 have HB := Lib.hid hb1
 clear hb1
 have hsz : w.heap.size < w1.heap.size := by have := hg1.size; simp at this; omega
 go_wp2
 go_ret
 have hgs : Chg (At w.heap.size) w1 (w1.setCell ⟨w.heap.size, 0, none⟩ (.slice A1 l.length c1)) := (Chg.refl (At w.heap.size) _).setCell (p := ⟨w.heap.size, 0, none⟩) (.inl rfl) _
 refine ⟨rfl, ⟨A1, c1, ?_, ho1.rd.keep hgs ?_, hc1, hm1⟩, ?_⟩
 ·rw [heap_setCell_same _ _ _ _ _ _ HB.out]; rfl
 ·rintro b o rfl hne h
  have := ho1.ge hne
  simp at this
  unfold At at h
  omega
 ·exact (((Chg.refl Non w).alloc _).then_non hg1).setCell (.inr (Nat.le_refl _)) _
end
section
open Go.RowKit
theorem sealL_len (k : UInt8) (f : List UInt8) (h : f.length ≤ 58) : (sealL k f).length = 64 := by
 simp [sealL, crcPut, be_length]; omega
theorem crcOk_put (x : List UInt8) : crcOk (crcPut x) = true := by
 have hl : (crcPut x).length = x.length + 4 := by simp [crcPut, be_length]
 unfold crcOk
 rw [decide_eq_true_eq]
 refine ⟨by omega, ?_⟩
 rw [hl, Nat.add_sub_cancel]
 have : (crcPut x).take x.length = x := by simp [crcPut]
 rw [this]
theorem open_seal (k : UInt8) (f : List UInt8) (h : f.length ≤ 58) : openL k (sealL k f) = some f := by
 have hlen := sealL_len k f h
 have hsz : sizeL (sealL k f) = f.length := by
  simp [sizeL, sealL, crcPut, List.getD]
  omega
 have hd : ∀ t, (sealL k f).drop (2 + t) = (f ++ List.replicate (58 - f.length) 0 ++ be (crcSum ([k, UInt8.ofNat f.length] ++ f ++ List.replicate (58 - f.length) 0)) 4).drop t := by
  intro t
  simp [sealL, crcPut, Nat.add_comm 2 t]
 have hw : wholeL (sealL k f) = true := by
  unfold wholeL
  rw [hsz, decide_eq_true hlen, decide_eq_true h]
  simp only [Bool.true_and]
  rw [show crcOk (sealL k f) = true from crcOk_put _]
  simp only [Bool.true_and, decide_eq_true_eq]
  rw [hd, List.append_assoc, List.drop_left]
  rw [show 60 - (2 + f.length) = (List.replicate (58 - f.length) (0 : UInt8)).length by simp; omega]
  rw [List.take_left]
  simp
 have h0 : (sealL k f).getD 0 0 = k := by simp [sealL, crcPut]
 unfold openL
 rw [if_pos ⟨hw, h0⟩, hsz]
 have := hd 0
 rw [Nat.add_zero, List.drop_zero] at this
 rw [this, List.append_assoc, List.take_left]
theorem i64_u64 (n : Int) (h1 : -9223372036854775808 ≤ n) (h2 : n ≤ 9223372036854775807) : i64 (u64 n) = n := by
 unfold i64 wrap64 u64
 omega
theorem rdInt_be (n : Int) (r : List UInt8) (h1 : -9223372036854775808 ≤ n) (h2 : n ≤ 9223372036854775807) : rdInt (be (u64 n) 8 ++ r) 0 = (n, r, 0) := by
 have hl : (be (u64 n) 8).length = 8 := be_length _ _
 unfold rdInt
 rw [if_pos rfl, if_pos (by rw [List.length_append, hl]; omega)]
 have ht : (be (u64 n) 8 ++ r).take 8 = be (u64 n) 8 := by rw [List.take_append_of_le_length (by omega), List.take_of_length_le (by omega)]
 have hdr : (be (u64 n) 8 ++ r).drop 8 = r := by
  have := List.drop_left (l₁ := be (u64 n) 8) (l₂ := r)
  rw [hl] at this
  exact this
 rw [ht, hdr, num_be _ _ (u64_lt n), i64_u64 n h1 h2]
end
section
open Go.RowKit
def flagB (b : Bool) : UInt8 := if b then 1 else 0
end
section
open Go.RowKit
section
variable {P : Program} {md : Region.Mode} {ops : Array Oper} {Q : Exit → Act → World → Prop} {fuel : Nat} {listed : Array Bool} {a : Act} {w : World} {K : Act → World → Prop} {i : Nat}
theorem wp_cutA {id : Nat} {b : Bool} (a' : Act) (R : World → Prop) (h : (Code.region id ops b).wp P (fun e x v => e = .normal ∧ x = a' ∧ R v) a w) (hk : ∀ v, R v → Q .normal a' v) : (Code.region id ops b).wp P Q a w :=
 Code.wp_mono (fun e x v ⟨he, hx, hr⟩ => by subst he; subst hx; exact hk v hr) h
theorem wp_cutB {id : Nat} {b : Bool} {α : Type} (f : α → Act → Act) (R : α → World → Prop) (h : (Code.region id ops b).wp P (fun e x v => e = .normal ∧ ∃ y, x = f y a ∧ R y v) a w) (hk : ∀ y v, R y v → Q .normal (f y a) v) : (Code.region id ops b).wp P Q a w :=
 Code.wp_mono (fun e x v ⟨he, y, hx, hr⟩ => by subst he; subst hx; exact hk y v hr) h
theorem wpList_wanted {rest : List Oper} {o : Oper} (hw : Region.wanted o (yielded ops a.tmps) = true) (h : ∀ K : Act → World → Prop, (∀ a w, wpList P ops Q rest a w → K a w) → o.wp P a w K Q) : wpList P ops Q (o :: rest) a w :=
 wpList_step fun K hK => by rw [if_pos hw]; exact h K hK
theorem wpList_pureW {rest : List Oper} {o : Oper} (d : Option Tmp) (v : Value) (hdst : o.dst = d) (hw : Region.wanted o (yielded ops a.tmps) = true) (he : (execOp a.eval o).run P w = .ok (.value v) w) (h : wpList P ops Q rest (a.put d v) w) : wpList P ops Q (o :: rest) a w := by
 subst hdst
 refine wpList_wanted hw fun K hK => ?_
 simp only [Oper.wp, he, Oper.upon]
 exact hK _ _ h
theorem wpList_loadW {rest : List Oper} {o : Oper} (d : Option Tmp) (ty : TypeId) (x : Operand) (b off : Nat) (C : Array Value) (td : TypeDesc) (hdst : o.dst = d) (ho : o.op = .load ty x) (hw : Region.wanted o (yielded ops a.tmps) = true)
  (hx : a.eval x = .pointer (some ⟨b, off, none⟩)) (hR : w.rangeAt b off C.toList) (hu : P.underlying ty = some td) (hd : td.isRow = true) (hz : (P.info? ty).map (·.size) = some C.size) (h : wpList P ops Q rest (a.put d (.agg C)) w) : wpList P ops Q (o :: rest) a w := by
 subst hdst
 exact wpList_wanted hw fun K hK => wp_load_mid ty x ho b off hx C.toList td hR hu hd (by rw [hz, Array.length_toList]) (hK _ _ h)
end
end
section
open Go.RowKit
section
variable {P : Program} {md : Region.Mode} {ops : Array Oper} {Q : Exit → Act → World → Prop} {S : World → Prop} {fuel : Nat} {listed : Array Bool} {a : Act} {w : World}
theorem h_pure (i : Nat) (d : Option Tmp) (v : Value) {oi : Oper} (hi : ops[i]? = some oi) (hs : Region.noSelect ops = true) (hf : Region.free md ops listed i = true) (hr : (Region.ready md ops listed).contains i = true)
  (hdst : oi.dst = d) (hQ : ∀ c a w, Q (.panic c) (a.put d v) w → Q (.panic c) a w) (hw : Region.wanted oi (yielded ops a.tmps) = true) (he : ∀ w, S w → (execOp a.eval oi).run P w = .ok (.value v) w) (hS : S w)
  (h : wpAnyH P md ops Q S fuel (listed.setIfInBounds i true) (a.put d v) w) : wpAnyH P md ops Q S (fuel + 1) listed a w := by
 subst hdst
 exact wpAnyH_take hi hs hf hr hQ (.inl ⟨hw, he⟩) hS h
theorem h_skip (i : Nat) (d : Option Tmp) {oi : Oper} (hi : ops[i]? = some oi) (hs : Region.noSelect ops = true) (hf : Region.free md ops listed i = true) (hr : (Region.ready md ops listed).contains i = true)
  (hdst : oi.dst = d) (hQ : ∀ c a w, Q (.panic c) (a.put d undef) w → Q (.panic c) a w) (hw : Region.wanted oi (yielded ops a.tmps) = false) (hS : S w)
  (h : wpAnyH P md ops Q S fuel (listed.setIfInBounds i true) (a.put d undef) w) : wpAnyH P md ops Q S (fuel + 1) listed a w := by
 subst hdst
 exact wpAnyH_take hi hs hf hr hQ (.inr ⟨hw, rfl⟩) hS h
theorem h_one (i : Nat) {oi : Oper} (hr : Region.ready md ops listed = [i]) (hi : ops[i]? = some oi) (hw : Region.wanted oi (yielded ops a.tmps) = true)
  (h : ∀ K : Act → World → Prop, Shut (∀ a w, S w → (S w → wpAnyH P md ops Q S fuel (listed.setIfInBounds i true) a w) → K a w) → Oper.wp P oi a w K Q) : wpAnyH P md ops Q S (fuel + 1) listed a w :=
 wpAnyH_ready hr (by simp) (AllReadyH.cons hi (fun K hK => by rw [if_pos hw]; exact h K hK) AllReadyH.nil)
theorem h_load (i : Nat) (dd : Option Tmp) {oi : Oper} (ty : TypeId) (x : Operand) (b o : Nat) (C : Array Value) (d : TypeDesc) (hi : ops[i]? = some oi) (hs : Region.noSelect ops = true) (hf : Region.free md ops listed i = true) (hr : (Region.ready md ops listed).contains i = true)
  (hdst : oi.dst = dd) (ho : oi.op = .load ty x) (hQ : ∀ c a w, Q (.panic c) (a.put dd (.agg C)) w → Q (.panic c) a w) (hw : Region.wanted oi (yielded ops a.tmps) = true)
  (hx : a.eval x = .pointer (some ⟨b, o, none⟩)) (hR : ∀ w, S w → w.rangeAt b o C.toList) (hu : P.underlying ty = some d) (hd : d.isRow = true) (hz : (P.info? ty).map (·.size) = some C.size) (hS : S w)
  (h : wpAnyH P md ops Q S fuel (listed.setIfInBounds i true) (a.put dd (.agg C)) w) : wpAnyH P md ops Q S (fuel + 1) listed a w := by
 subst hdst
 exact wpAnyH_take hi hs hf hr hQ (yieldsIf_load_mid hw ty x ho b o hx C.toList d hR hu hd (by rw [hz, Array.length_toList])) hS h
theorem h_store (i : Nat) {oi : Oper} (ty : TypeId) (x y : Operand) (g : Nat) (C : Array Value) (hr : Region.ready md ops listed = [i]) (hi : ops[i]? = some oi) (hw : Region.wanted oi (yielded ops a.tmps) = true)
  (hdst : oi.dst = none) (ho : oi.op = .store ty x y) (hx : a.eval x = .pointer (some ⟨g, 0, none⟩)) (hy : a.eval y = .agg C) (t : TypeId) (hold : ∃ old : Array Value, w.heap[g]? = some (.cells old t (0, 0)) ∧ old.size = C.size) (hz : (P.info? ty).map (·.size) = some C.size)
  (h1 : C.all (·.oneCell') = true) (hS : ∀ W, Chg (fun k => k = g) w W → W.heap[g]? = some (.cells C t (0, 0)) → S W)
  (h : ∀ W, Chg (fun k => k = g) w W → W.heap[g]? = some (.cells C t (0, 0)) → wpAnyH P md ops Q S fuel (listed.setIfInBounds i true) a W) : wpAnyH P md ops Q S (fuel + 1) listed a w := by
 obtain ⟨old, hg, hold⟩ := hold
 have hput : a.put oi.dst undef = a := by rw [hdst]; rfl
 have k1 : Chg (fun k => k = g) w (w.setRow g C) := (Chg.refl (fun k => k = g) _).setRow (.inl rfl) _
 have k2 := setRow_heap w g old C t (0, 0) hg
 exact h_one i hr hi hw (fun K hK => wp_store_row ty x y ho g C hx hy t old hg hz hold h1 (by rw [hput]; exact hK.out _ _ (hS _ k1 k2) (fun _ => h _ k1 k2)))
end
end
section
open Go.RowKit
theorem sA {α : Type _} (l : List α) (i : Nat) (a : α) : l.toArray.setIfInBounds i a = (l.set i a).toArray := List.setIfInBounds_toArray ..
theorem sB {α : Type _} {x a : α} {xs : List α} : (x :: xs).set 0 a = a :: xs := rfl
theorem sC {α : Type _} {x a : α} {xs : List α} {i : Nat} : (x :: xs).set (i + 1) a = x :: xs.set i a := rfl
section
variable {P : Program} {md : Region.Mode} {ops : Array Oper} {Q : Exit → Act → World → Prop} {S : World → Prop} {fuel : Nat} {listed listed' : Array Bool} {a a' : Act} {w : World}
theorem hp (i : Nat) (d : Tmp) (v : Value) {oi : Oper} (hi : ops[i]? = some oi) (hS : S w)
  (h : wpAnyH P md ops Q S fuel listed' a' w)
  (he : ∀ w, S w → (execOp a.eval oi).run P w = .ok (.value v) w := by intro W hW; go_simp)
  (ha : a.put (some d) v = a' := by first | (simp only [Act.put, List.setIfInBounds_toArray, List.set_cons_zero, List.set_cons_succ] <;> rfl) | rfl)
  (hl : listed.setIfInBounds i true = listed' := by first | (simp only [List.setIfInBounds_toArray, List.set_cons_zero, List.set_cons_succ] <;> rfl) | rfl)
  (hQ : ∀ c a w, Q (.panic c) (a.put (some d) v) w → Q (.panic c) a w := by exact fun _ _ _ h => h)
  (hs : Region.noSelect ops = true := by kernel_rfl) (hf : Region.free md ops listed i = true := by kernel_rfl) (hr : (Region.ready md ops listed).contains i = true := by kernel_rfl)
  (hdst : oi.dst = some d := by kernel_rfl) (hw : Region.wanted oi (yielded ops a.tmps) = true := by kernel_rfl) : wpAnyH P md ops Q S (fuel + 1) listed a w :=
 h_pure i (some d) v hi hs hf hr hdst hQ hw he hS (by rw [ha, hl]; exact h)
theorem hs (i : Nat) (d : Tmp) {oi : Oper} (hi : ops[i]? = some oi) (hS : S w)
  (h : wpAnyH P md ops Q S fuel listed' a' w)
  (ha : a.put (some d) undef = a' := by first | (simp only [Act.put, List.setIfInBounds_toArray, List.set_cons_zero, List.set_cons_succ] <;> rfl) | rfl)
  (hl : listed.setIfInBounds i true = listed' := by first | (simp only [List.setIfInBounds_toArray, List.set_cons_zero, List.set_cons_succ] <;> rfl) | rfl)
  (hQ : ∀ c a w, Q (.panic c) (a.put (some d) undef) w → Q (.panic c) a w := by exact fun _ _ _ h => h)
  (hs : Region.noSelect ops = true := by kernel_rfl) (hf : Region.free md ops listed i = true := by kernel_rfl) (hr : (Region.ready md ops listed).contains i = true := by kernel_rfl)
  (hdst : oi.dst = some d := by kernel_rfl) (hw : Region.wanted oi (yielded ops a.tmps) = false := by kernel_rfl) : wpAnyH P md ops Q S (fuel + 1) listed a w :=
 h_skip i (some d) hi hs hf hr hdst hQ hw hS (by rw [ha, hl]; exact h)
end
end
section
open Go.RowKit
theorem sel {P : Program} {ops : Array Oper} {rest : List Oper} {a : Act} {w : World} {Q : Exit → Act → World → Prop} (d : Option Tmp) (op : Op) {ty : TypeId} {pos : String} {af : Array Edge} {g : Option (Nat × Bool)}
  (h : wpList P ops Q (⟨d, op, ty, pos, af, g⟩ :: rest) a w) : wpList P ops Q (⟨d, op, ty, pos, af, g⟩ :: rest) a w := h
theorem wpList_store_rowA {P : Program} {w : World} {ops : Array Oper} {rest : List Oper} {o : Oper} {a : Act} {Q : Exit → Act → World → Prop} (hgd : o.guard = none) (ty : TypeId) (x y : Operand) (ho : o.op = .store ty x y)
  (g : Nat) (cells : Array Value) (hx : a.eval x = .pointer (some ⟨g, 0, none⟩)) (hy : a.eval y = .agg cells)
  (t : TypeId) (old : Array Value) (hg : w.heap[g]? = some (.cells old t (0, 0))) (hi : (P.info? ty).map (·.size) = some cells.size)
  (hold : old.size = cells.size) (h1 : cells.all (·.oneCell') = true)
  (h : ∀ W, Chg (fun k => k = g) w W → W.heap[g]? = some (.cells cells t (0, 0)) → wpList P ops Q rest (a.put o.dst undef) W) : wpList P ops Q (o :: rest) a w :=
 wpList_store_row hgd ty x y ho g cells hx hy t old hg hi hold h1 (h _ ((Chg.refl (fun k => k = g) _).setRow (.inl rfl) _) (setRow_heap _ _ _ _ _ _ hg))
theorem row_cell {w : World} {b : Nat} {C : Array Value} {t : TypeId} {fr : Nat × Nat} (h : w.heap[b]? = some (.cells C t fr)) {i : Nat} {v : Value} (hv : C[i]? = some v) : w.cell? ⟨b, i, none⟩ = some v := by
 rw [cell_of_row _ _ _ _ _ _ h]; exact hv
theorem blockN {w W : World} {b : Nat} {x : Obj} (hg : Chg Non w W) (h : w.heap[b]? = some x) : W.heap[b]? = some x :=
 (hg.block b (Array.getElem?_eq_some_iff.1 h).1 (fun e => e)).trans h
end
section
structure Dk where
 up : Bool
 sec : List (List UInt8)
 cache : List (Nat × List UInt8)
 left : Int
 stay : List UInt8
def dirty (m : List (Nat × List UInt8)) : List Nat := (m.map (·.1)).mergeSort (fun a b => decide (a ≤ b))
def look (m : List (Nat × List UInt8)) (i : Nat) : Option (List UInt8) := (m.find? (fun p => p.1 == i)).map (·.2)
def upd (m : List (Nat × List UInt8)) (i : Nat) (l : List UInt8) : List (Nat × List UInt8) :=
 if (m.find? (fun p => p.1 == i)).isSome then m.map (fun p => if p.1 == i then (i, l) else p) else m ++ [(i, l)]
namespace Dk
def at_ (D : Dk) (i : Nat) : List UInt8 := (look D.cache i).getD (D.sec.getD i [])
def spillTo (D : Dk) (stays : Nat → Bool) : Nat → List (List UInt8)
 | 0 => D.sec
 | n + 1 => match (dirty D.cache)[n]? with
  | some k => if stays n then (D.spillTo stays n).set k ((look D.cache k).getD []) else D.spillTo stays n
  | none => D.spillTo stays n
def spill (D : Dk) (stays : Nat → Bool) : Dk := { D with sec := D.spillTo stays D.cache.length, cache := [] }
def bit (stay : List UInt8) (n : Nat) : Bool := decide (n / 8 < stay.length) && ((stay.getD (n / 8) 0).toNat / 2 ^ (n % 8) % 2 == 1)
def fall (D : Dk) (stay : List UInt8) : Dk := { D.spill (bit stay) with up := false, left := 0, stay := [] }
def operate (D : Dk) (do_ : Dk → Dk) : Dk × Int :=
 if D.left = 1 then (D.fall D.stay, 60) else (do_ { D with left := max (D.left - 1) 0 }, 0)
def ready (D : Dk) : Int := if D.up then 0 else 60
def write (D : Dk) (i : Int) (b : List UInt8) : Dk × Int :=
 if D.up = false then (D, 60)
 else if ¬ (0 ≤ i ∧ i < D.sec.length) then (D, 61)
 else if b.length ≠ 64 then (D, 2)
 else D.operate fun D => { D with cache := upd D.cache i.toNat b }
def flush (D : Dk) : Dk × Int :=
 if D.up = false then (D, 60) else D.operate fun D => D.spill fun _ => true
def start (D : Dk) : Dk × Int :=
 if D.up then (D, 2) else ({ D with up := true }, 0)
def new (n : Nat) : Dk := ⟨true, List.replicate n (List.replicate 64 0), [], 0, []⟩
structure Ok (D : Dk) : Prop where
 secs : ∀ s ∈ D.sec, s.length = 64
 keys : ∀ p ∈ D.cache, p.1 < D.sec.length ∧ p.2.length = 64
 nodup : (D.cache.map (·.1)).Nodup
 most : D.sec.length ≤ 1024
 left0 : 0 ≤ D.left
end Dk
end
section
open Go.RowKit Go.Maps Go.Sort Go.Shelf
def secV (l : List UInt8) : Value := .agg (l.map bv).toArray
def MapIs (w : World) (b : Nat) (m : List (Nat × List UInt8)) : Prop :=
 ∃ es clock, w.heap[b]? = some (.map es clock) ∧ MapKept.Stamped es clock ∧ es.toList.map (fun e => (e.key, e.val)) = m.map (fun p => (Value.int .i64 (p.1 : Int), secV p.2))
def R0 : Value → Option (DataW Unit × List MemPlace) := fun _ => some (.nil, [])
theorem insert_perm {H : Type} (x : Lit × DataW H) (l : List (Lit × DataW H)) : (DataW.insert x l).Perm (x :: l) := by
 induction l with
 | nil => exact List.Perm.refl _
 | cons y r ih =>
  unfold DataW.insert
  split
  ·exact List.Perm.refl _
  ·exact ((ih.cons y).trans (List.Perm.swap _ _ _))
theorem foldr_insert_perm {H : Type} (l : List (Lit × DataW H)) : (l.foldr DataW.insert []).Perm l := by
 induction l with
 | nil => exact List.Perm.refl _
 | cons x r ih => exact (insert_perm x _).trans (ih.cons x)
theorem mapIs_nodup {w : World} {b : Nat} {m : List (Nat × List UInt8)} (h : MapIs w b m) : (m.map (·.1)).Nodup := by
 obtain ⟨es, clock, hb, hs, hm⟩ := h
 have hk : es.toList.map (·.key) = m.map (fun p => Value.int .i64 (p.1 : Int)) := by
  have := congrArg (List.map (·.1)) hm
  simpa [List.map_map, Function.comp_def] using this
 have hn := hs.2.2
 rw [hk, List.Nodup, List.pairwise_map] at hn
 rw [List.Nodup, List.pairwise_map]
 exact hn.imp (fun h e => h (by rw [e]))
theorem mapIs_owns {w : World} {b : Nat} {m : List (Nat × List UInt8)} (h : MapIs w b m) (hk : ∀ p ∈ m, p.1 < 9223372036854775808) (hsz : m.length ≤ maxLen) :
  ∃ D0 : DataW Unit, w.ownsMap Tryz.prog 3 R0 b m.length D0 ∧ Maps.size D0 = m.length ∧ (intKeys D0).Perm (m.map fun p => (p.1 : Int)) := by
 obtain ⟨es, clock, hb, hs, hm⟩ := h
 have hlen : es.size = m.length := by
  have := congrArg List.length hm
  simpa using this
 have hkey : ∀ e ∈ es.toList, ∃ p ∈ m, e.key = .int .i64 (p.1 : Int) ∧ e.val = secV p.2 := by
  intro e he
  have : (e.key, e.val) ∈ m.map (fun p => (Value.int .i64 (p.1 : Int), secV p.2)) := by rw [← hm]; exact List.mem_map.2 ⟨e, he, rfl⟩
  obtain ⟨p, hp, e'⟩ := List.mem_map.1 this
  exact ⟨p, hp, (Prod.mk.inj e').1.symm, (Prod.mk.inj e').2.symm⟩
 have hrd : ∀ e ∈ es.toList, ∀ p ∈ m, e.key = .int .i64 (p.1 : Int) → Go.WideElems.rd Tryz.prog 3 R0 e = some (.int .i64 (p.1 : Int), .nil) := by
  intro e he p hp hek
  have hwf : (Lit.int .i64 (p.1 : Int)).wf = true := WalkArith.wf_i64 (by have := hk p hp; omega)
  unfold Go.WideElems.rd
  rw [hek, Go.Maps.keyOf_int_mk Tryz.underlying3 hwf]
  rfl
 have hrg : es.toList.map (Go.WideElems.rg Tryz.prog 3 R0) = m.map fun p => (Lit.int .i64 (p.1 : Int), (DataW.nil : DataW Unit)) := by
  have h1 : es.toList.map (Go.WideElems.rg Tryz.prog 3 R0) = (es.toList.map (fun e => (e.key, e.val))).map (fun q => (match q.1 with | .int _ n => Lit.int .i64 n | _ => Lit.bool false, (DataW.nil : DataW Unit))) := by
   rw [List.map_map]
   apply List.map_congr_left
   intro e he
   obtain ⟨p, hp, h1, h2⟩ := hkey e he
   simp only [Go.WideElems.rg, hrd e he p hp h1, Option.getD_some, Function.comp, h1]
  rw [h1, hm, List.map_map]
  rfl
 refine ⟨.map ((es.toList.map (Go.WideElems.rg Tryz.prog 3 R0)).foldr DataW.insert []), ⟨es, clock, hb, ⟨by omega, hs, fun e he => ?_⟩, by omega, rfl⟩, ?_, ?_⟩
 ·obtain ⟨p, hp, h1, _⟩ := hkey e he
  exact ⟨_, hrd e he p hp h1⟩
 ·have := (foldr_insert_perm (es.toList.map (Go.WideElems.rg Tryz.prog 3 R0))).length_eq
  simp only [Maps.size]
  rw [this, hrg, List.length_map]
 ·rw [hrg]
  simp only [intKeys]
  refine ((foldr_insert_perm _).map _).trans ?_
  rw [List.map_map]
  exact List.Perm.refl _
theorem dirty_perm (m : List (Nat × List UInt8)) : (dirty m).Perm (m.map (·.1)) := List.mergeSort_perm _ _
theorem dirty_length (m : List (Nat × List UInt8)) : (dirty m).length = m.length := by rw [(dirty_perm m).length_eq, List.length_map]
theorem dirty_sorted (m : List (Nat × List UInt8)) : (dirty m).Pairwise (· ≤ ·) := by
 have := List.pairwise_mergeSort (le := fun a b : Nat => decide (a ≤ b)) (by intro a b c; simp; omega) (by intro a b; simp; omega) (m.map (·.1))
 exact this.imp (fun h => by simpa using h)
theorem dirty_cast (m : List (Nat × List UInt8)) (ss : List Int) (h : ss.Perm (m.map fun p => (p.1 : Int))) : (ss.mergeSort fun x y => decide (x ≤ y)) = (dirty m).map (fun k : Nat => (k : Int)) := by
 have h1 : ss.Perm ((dirty m).map (fun k : Nat => (k : Int))) := by
  refine h.trans ?_
  have := (dirty_perm m).symm.map (fun k : Nat => (k : Int))
  rw [List.map_map] at this
  exact this
 have h2 : (ss.mergeSort fun x y => decide (x ≤ y)) = ((dirty m).map (fun k : Nat => (k : Int))).mergeSort fun x y => decide (x ≤ y) := mergeSort_of_perm_i h1
 rw [h2]
 refine List.mergeSort_of_pairwise ?_
 rw [List.pairwise_map]
 exact (dirty_sorted m).imp (fun h => by simpa using h)
theorem sortsA (m : Nat) : AnyZI.SortsIn Tryz.prog Tryz.sortedA_ren Fence.wide m :=
 ⟨fun blk off cap ss W hH hblk hsz => callsIn_wide.2 (AnyM.slices_Sort_int Tryz.sortA blk off cap ss W hH hblk hsz),
  fun p cap W => callsIn_wide.2 (AnyM.slices_Sort_int_none Tryz.sortA p cap W)⟩
theorem keys_in (mb : Option Nat) (W : World) : Calls Tryz.prog 63 #[.map mb] W fun e w' => e = .returned (.func (.func 108) #[] #[.pointer (some ⟨W.heap.size, 0, none⟩)]) ∧ w' = W.alloc (.cells #[.map mb] 38) :=
 (callsIn_wide (n := 5)).1 (AnyZI.keys_in Tryz.keysA Fence.wide 5 trivial rfl mb W)
theorem sorted_keys (b : Nat) (m : List (Nat × List UInt8)) (w : World) (hm : MapIs w b m) (hk : ∀ p ∈ m, p.1 < 1024) (hsz : m.length ≤ 1024) :
  Calls Tryz.prog 62 #[.func (.func 108) #[] #[.pointer (some ⟨w.heap.size, 0, none⟩)]] (w.alloc (.cells #[.map (some b)] 38)) fun e w' => ∃ v, e = .returned v ∧
   w'.ownsRow w.heap.size 3 1 v (dirty m).length ((dirty m).map fun k : Nat => Value.int .i64 (k : Int)) ∧ Chg Non w w' := by
 obtain ⟨D0, hown, hmz, hperm⟩ := mapIs_owns hm (fun p hp => by have := hk p hp; omega) (by unfold maxLen; omega)
 have hbl := hown.lt
 have hseq : SeqGives Fence.wide 2 Tryz.prog 108 #[.pointer (some ⟨w.heap.size, 0, none⟩)] encZ (fun ss => ss.Perm (intKeys D0)) (Maps.size D0) (w.alloc (.cells #[.map (some b)] 38)) :=
  AnyZI.keys_gives (ρ := Tryz.keysA_ren) { Tryz.keysA with } Fence.wide _ trivial rfl (by omega) w.heap.size b m.length D0 _ (by simp) (by simp) (by
    obtain ⟨es, clock, hb, Ft, hs, hD⟩ := hown
    exact ⟨es, clock, (Below.heap_alloc _ _ b hbl).trans hb, Ft, hs, hD⟩)
 have cS := AnyZI.sorted_in Tryz.sortedA Fence.wide 5 trivial trivial trivial trivial rfl (by omega) (sortsA _) (enters_of Tryz.func107 (by kernel_rfl) rfl) 108 #[.pointer (some ⟨w.heap.size, 0, none⟩)] trivial (enters_of Tryz.func108 (by kernel_rfl) rfl) _ _ (by rw [hmz]; unfold maxLen; omega) (by rw [hmz]; omega) _ hseq
 change CallsIn _ _ Tryz.prog 62 _ _ _ at cS
 refine ((callsIn_wide (n := 5)).1 cS).mono ?_
 rintro e w' ⟨v, ss, rfl, hS, hrow, hnil, hb⟩
 refine ⟨v, rfl, ?_, .of_below (((Below.refl _ w).alloc (Nat.le_refl _) _).trans (hb.mono (by simp))) (Nat.le_refl _)⟩
 have hp := hS.trans hperm
 have hd := dirty_cast m ss hp
 have hl : ss.length = (dirty m).length := by rw [hp.length_eq, List.length_map, dirty_length]
 rw [hd, hl, List.map_map] at hrow
 exact ownsRow_base_a hrow (by simp)
end
end Go.Proofs.YtkgnlobabknkcaaGreat
