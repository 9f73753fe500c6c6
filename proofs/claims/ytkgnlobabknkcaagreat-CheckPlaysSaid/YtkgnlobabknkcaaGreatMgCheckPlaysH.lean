/- CheckPlays, part 8 of 27: contracts of the functions that it reaches, and the laws that they need, merged and shortened (from my texts XRef07c, XStP, XRef05e, XR21f). -/
import Derived.Test.YtkgnlobabknkcaaGreatMgCheckPlaysA
import Derived.Test.YtkgnlobabknkcaaGreatMgCheckPlaysF
import Derived.Test.YtkgnlobabknkcaaGreatMgCheckPlaysG
namespace Go.Proofs.YtkgnlobabknkcaaGreat
set_option linter.unusedVariables false
set_option linter.unusedSimpArgs false
set_option maxHeartbeats 8000000
set_option maxRecDepth 100000
section
open Go.RowKit
theorem rCatNil (A : Option Addr) (c : Nat) (w : World) : Calls Tryz.prog 100 #[.slice none 0 0, .slice A 0 c] w fun e w' => e = .returned (.slice none 0 0) ∧ w = w' := by
 go_enter Tryz.func100, Tryz.ntmps100
 go_wp2_with fail
 refine wp_loop_rounds 1 ?_
 rw [rounds_succ]
 go_wp2_with fail
 refine wp_loop_rounds 1 ?_
 rw [rounds_succ]
 go_wp2_with fail
 go_ret
 exact ⟨rfl, rfl⟩
theorem rCopyNil (A : Option Addr) (c : Nat) (w : World) : Calls Tryz.prog 54 #[.slice A 0 c] w fun e w' => e = .returned (.slice none 0 0) ∧ w = w' := by
 have HC := Lh (rCatNil A c w)
 go_enter Tryz.func54, Tryz.ntmps54
 go_wp2_with fail
 refine HC.out.mono ?_
 rintro e u ⟨rfl, rfl⟩
 go_wp2_with fail
 go_ret
 exact ⟨rfl, rfl⟩
theorem rCopyN (A : Option Addr) (l : List UInt8) (c : Nat) (w : World) (h : Rd w A l) (hl : l.length ≤ 140737488351232) :
  Calls Tryz.prog 54 #[.slice A l.length c] w fun e w' => ∃ A2 c2, e = .returned (.slice A2 l.length c2) ∧ (l = [] → A2 = none ∧ c2 = 0) ∧ l.length ≤ c2 ∧ c2 ≤ maxLen ∧ Own w.heap.size w' A2 l ∧ Chg Non w w' := by
 by_cases hz : l = []
 ·subst hz
  refine (rCopyNil A c w).mono ?_
  rintro e u ⟨rfl, rfl⟩
  exact ⟨none, 0, rfl, fun _ => ⟨rfl, rfl⟩, Nat.le_refl _, by simp, Own.nil _ _ _, Chg.refl _ _⟩
 ·refine (rCopy A l c w h hl).mono ?_
  rintro e u ⟨A2, c2, rfl, h1, h2, h3, h4⟩
  exact ⟨A2, c2, rfl, fun e => absurd e hz, h1, h2, h3, h4⟩
def ROpen (kind : UInt8) (s : List UInt8) (w : World) (e : Ending) (w' : World) : Prop :=
 ((∃ A c m, openL kind s = some m ∧ e = .returned (.tuple #[.slice A m.length c, .int .i64 0]) ∧ m.length ≤ c ∧ c ≤ maxLen ∧ Own w.heap.size w' A m) ∨ (openL kind s = none ∧ e = .returned (.tuple #[.slice none 0 0, .int .i64 70]))) ∧ Chg Non w w'
theorem rOpen (kind : UInt8) (A : Option Addr) (s : List UInt8) (cap : Nat) (w : World) (hr : Rd w A s) (h64 : s.length = 64) (hcap : 64 ≤ cap) (hm : cap ≤ maxLen) :
  Calls Tryz.prog 93 #[.int .u8 (kind.toNat : Int), .slice A 64 cap] w (ROpen kind s w) := by
 obtain ⟨b, o, rfl, hb, hc⟩ := hr.at_ (by omega)
 have hc0 := hc 0 (by omega)
 have hc1 := hc 1 (by omega)
 rw [Nat.add_zero] at hc0
 have h00 : s.getD 0 0 = s[0] := by rw [List.getD, List.getElem?_eq_getElem (by omega)]; rfl
 have h01 : sizeL s = s[1].toNat := by unfold sizeL; rw [List.getD, List.getElem?_eq_getElem (by omega)]; rfl
 have hk := kind.toNat_lt
 unfold maxLen at hm
 clear hc
 by_cases hkk : s[0] = kind
 case neg =>
  have hno : openL kind s = none := by unfold openL; rw [if_neg (fun h => hkk (by rw [← h00]; exact h.2))]
  have hd : ((s[0].toNat : Int) != (kind.toNat : Int)) = true := by
   rw [bne_iff_ne]; intro e; exact hkk (UInt8.toNat_inj.1 (by omega))
  have HP : Hid (ROpen kind s w (.returned (.tuple #[.slice none 0 0, .int .i64 70])) w) := Lh ⟨.inr ⟨hno, rfl⟩, Chg.refl _ _⟩
  clear hno
  go_enter Tryz.func93, Tryz.ntmps93
  go_wp2_with fail
  go_ret2
  exact HP.out
 have hd : ((s[0].toNat : Int) != (kind.toNat : Int)) = false := by rw [hkk]; simp
 by_cases hn : 58 < s[1].toNat
 ·have hno : openL kind s = none := by
   unfold openL
   rw [if_neg]
   rintro ⟨h, _⟩
   have := wholeL_size h
   omega
  have hd1 : decide (58 < (s[1].toNat : Int)) = true := by simp; omega
  have HP : Hid (ROpen kind s w (.returned (.tuple #[.slice none 0 0, .int .i64 70])) w) := Lh ⟨.inr ⟨hno, rfl⟩, Chg.refl _ _⟩
  clear hno
  go_enter Tryz.func93, Tryz.ntmps93
  go_wp2_with fail
  go_ret2
  exact HP.out
 have hd1 : decide (58 < (s[1].toNat : Int)) = false := by simp; omega
 have hiff := seal_whole kind s h64 (by rw [h00]; exact hkk) (by rw [h01]; omega)
 have hop : openL kind s = if wholeL s = true then some ((s.drop 2).take (sizeL s)) else none := by
  unfold openL
  have : s.getD 0 0 = kind := by rw [h00]; exact hkk
  by_cases hw : wholeL s = true
  ·rw [if_pos ⟨hw, this⟩, if_pos hw]
  ·rw [if_neg (fun h => hw h.1), if_neg hw]
 have hr2 : Rd w (some ⟨b, o + 2, none⟩) ((s.drop 2).take (sizeL s)) := (hr.drop 2).take (sizeL s)
 have hml : ((s.drop 2).take (sizeL s)).length = s[1].toNat := by rw [List.length_take, List.length_drop, h01]; omega
 obtain ⟨m, hmm⟩ : ∃ m, (s.drop 2).take (sizeL s) = m := ⟨_, rfl⟩
 rw [hmm] at hiff hop hr2 hml
 have HC := Lh (fun c2 => rCopyN (some ⟨b, o + 2, none⟩) m c2 w hr2 (by omega))
 have HSl := Lh (fun A2 c2 W (h2 : Rd W A2 m) (hN : m = [] → A2 = none ∧ c2 = 0) => rSeal kind A2 m c2 W h2 hN (by omega))
 have hsl : (sealL kind m).length = 64 := sealL_len _ _ (by omega)
 have HSa := Lh (fun A2 c2 W (hg : Chg Non w W) (h2 : Rd W A2 (sealL kind m)) => rSame A2 (sealL kind m) c2 (some ⟨b, o, none⟩) s cap W h2 (hr.non hg) (by omega) (by omega))
 rw [h64] at HSa
 have HOp := Lh hop
 have HIff := Lh hiff
 obtain ⟨z, hz⟩ : ∃ z : Nat, s[1].toNat = z := ⟨_, rfl⟩
 rw [hz] at hc1 hd1 hml hn
 have hw2 : IntKind.i64.wrap (2 + (z : Int)) = ((2 + z : Nat) : Int) := by rw [Go.IntWalk.i64_in _ (by omega)]; omega
 have hcv : IntKind.i64.wrap (z : Int) = (z : Int) := Go.IntWalk.i64_in _ (by omega)
 rw [hml] at HC HSl
 obtain ⟨L, hL⟩ : ∃ L, sealL kind m = L := ⟨_, rfl⟩
 rw [hL] at HSl HSa HIff hsl
 rw [hsl] at HSa
 have HML := Lh hml
 have HSL := Lh hsl
 clear hop hiff hr2 hmm hml h00 h01 hz hL hsl
 go_enter Tryz.func93, Tryz.ntmps93
 go_wp2_with fail
 refine (HC.out _).mono ?_
 rintro e u ⟨A2, c2, rfl, hN, k1, k2, hO, hg⟩
 have HN := Lh hN
 have HO := Lh hO
 have HG := Lh hg
 have HK := Lh (And.intro k1 k2)
 clear hN hO hg k1 k2
 go_wp2_with fail
 refine (HSl.out A2 c2 u HO.out.rd HN.out).mono ?_
 rintro e u2 ⟨A3, c3, rfl, j1, j2, j3, j4⟩
 have HR3 := Lh j3.rd
 have HG2 := Lh (HG.out.then_non j4)
 have HG3 := Lh j4
 rw [HSL.out]
 clear j1 j2 j3 j4
 go_wp2_with fail
 refine (HSa.out A3 c3 u2 HG2.out HR3.out).mono ?_
 rintro e u3 ⟨rfl, hg3⟩
 by_cases hw : wholeL s = true
 ·have hLs : decide (L = s) = true := by rw [decide_eq_true_eq]; exact HIff.out.2 hw
  have HP : Hid (ROpen kind s w (.returned (.tuple #[.slice A2 z c2, .int .i64 0])) u3) := Lh ⟨.inl ⟨A2, c2, m, by rw [HOp.out, if_pos hw], by rw [HML.out], HML.out ▸ HK.out.1, HK.out.2, (HO.out.non HG3.out).non hg3⟩, HG2.out.then_non hg3⟩
  clear hg3
  rw [hLs]
  clear hLs
  go_wp2_with fail
  go_ret2
  exact HP.out
 ·have hLs : decide (L = s) = false := by rw [decide_eq_false_iff_not]; exact fun e => hw (HIff.out.1 e)
  have HP : Hid (ROpen kind s w (.returned (.tuple #[.slice none 0 0, .int .i64 70])) u3) := Lh ⟨.inr ⟨by rw [HOp.out, if_neg hw], rfl⟩, HG2.out.then_non hg3⟩
  clear hg3
  rw [hLs]
  clear hLs
  go_wp2_with fail
  go_ret2
  exact HP.out
end
section
open Go.RowKit
def wInt (n : Int) : List UInt8 := be (u64 n) 8
def wBy (m : List UInt8) : List UInt8 := be m.length 4 ++ m
def wWords (r : List Nat) : List UInt8 := r.flatMap fun x : Nat => wInt (x : Int)
def wPt (p : Pt) : List UInt8 := wInt p.id ++ (wInt p.size ++ (flagB p.keep :: (wWords p.r ++ (wInt (p.pc : Int) ++ (UInt8.ofNat p.st :: wBy p.mem)))))
def wMs (l : List (List UInt8)) : List UInt8 := wInt (l.length : Int) ++ l.flatMap wBy
def wQu (q : Qu) : List UInt8 := wInt q.ch.id ++ (wInt q.ch.src ++ (wInt q.ch.dst ++ (wInt q.ch.cap ++ (wInt q.ch.size ++ wMs q.msgs))))
def formS (s : Sta) : List UInt8 := wInt s.frames ++ (wInt (s.parts.length : Int) ++ (s.parts.flatMap wPt ++ (wInt (s.queues.length : Int) ++ s.queues.flatMap wQu)))
structure Rs where
 l : List UInt8
 er : Int
 wide : Bool
def Rs.int (s : Rs) : Int × Rs := ((rdInt s.l s.er).1, { s with l := (rdInt s.l s.er).2.1, er := (rdInt s.l s.er).2.2 })
def Rs.word (s : Rs) : Nat × Rs := ((s.int.1 % 4294967296).toNat, { s.int.2 with wide := s.wide || decide (s.int.1 < 0) || decide (4294967296 ≤ s.int.1) })
def Rs.flag (s : Rs) : Bool × Rs := ((rdFlag s.l s.er).1, { s with l := (rdFlag s.l s.er).2.1, er := (rdFlag s.l s.er).2.2 })
def Rs.byte (s : Rs) : UInt8 × Rs := ((rdByte s.l s.er).1, { s with l := (rdByte s.l s.er).2.1, er := (rdByte s.l s.er).2.2 })
def rdBytes (l : List UInt8) (er : Int) : List UInt8 × List UInt8 × Int :=
 if er = 0 then
  if 4 ≤ l.length then
   if num (l.take 4) ≤ 65536 then
    if num (l.take 4) ≤ (l.drop 4).length then ((l.drop 4).take (num (l.take 4)), (l.drop 4).drop (num (l.take 4)), 0) else ([], [], 50)
   else ([], [], 50)
  else ([], [], 50)
 else ([], l, er)
def Rs.bytes (s : Rs) : List UInt8 × Rs := ((rdBytes s.l s.er).1, { s with l := (rdBytes s.l s.er).2.1, er := (rdBytes s.l s.er).2.2 })
def rdCount (top : Nat) (l : List UInt8) (er : Int) : Int × List UInt8 × Int :=
 if er = 0 then
  if 8 ≤ l.length then
   if 0 ≤ i64 (num (l.take 8)) ∧ i64 (num (l.take 8)) ≤ min (top : Int) ((l.drop 8).length : Int) then (i64 (num (l.take 8)), l.drop 8, 0) else (0, [], 50)
  else (0, [], 50)
 else (0, l, er)
def Rs.count (top : Nat) (s : Rs) : Nat × Rs := ((rdCount top s.l s.er).1.toNat, { s with l := (rdCount top s.l s.er).2.1, er := (rdCount top s.l s.er).2.2 })
def Rs.many {α : Type} (f : Rs → α × Rs) : Nat → Rs → List α × Rs
 | 0, s => ([], s)
 | n + 1, s => ((f s).1 :: (Rs.many f n (f s).2).1, (Rs.many f n (f s).2).2)
def Rs.rows {α : Type} (top : Nat) (f : Rs → α × Rs) (s : Rs) : List α × Rs := Rs.many f (s.count top).1 (s.count top).2
def Rs.words : Nat → Rs → List Nat × Rs := Rs.many Rs.word
def Rs.pt (s : Rs) : Pt × Rs :=
 let a := s.int; let b := a.2.int; let c := b.2.flag; let d := Rs.words 8 c.2; let e := d.2.word; let f := e.2.byte; let g := f.2.bytes
 ({ id := a.1, size := b.1, keep := c.1, r := d.1, pc := e.1, st := f.1.toNat, mem := g.1 }, g.2)
def Rs.qu (s : Rs) : Qu × Rs :=
 let a := s.int; let b := a.2.int; let c := b.2.int; let d := c.2.int; let e := d.2.int; let f := Rs.rows 4 Rs.bytes e.2
 (⟨⟨a.1, b.1, c.1, d.1, e.1⟩, f.1⟩, f.2)
def Rs.sta (s : Rs) : Sta × Rs :=
 let a := s.int; let b := Rs.rows 6 Rs.pt a.2; let c := Rs.rows 8 Rs.qu b.2
 (⟨a.1, b.1, c.1⟩, c.2)
end
section
open Go.RowKit
theorem rNext_zero (B : Nat → Prop) (p : Nat) (l : List UInt8) (k : Nat) (hk : k ≤ l.length) (hz : l ≠ []) (w : World) (h : IsRd B p w l k 0) (hl : l.length ≤ 65536) :
  Calls Tryz.prog 127 #[.pointer (some ⟨p, 0, none⟩), .int .i64 0] w fun e w' => e = .returned (.tuple #[.slice none 0 0, .bool true]) ∧ IsRd B p w' l k 0 ∧ Chg (fun x => x = p) w w' := by
 have hb : decide ((0 : Int) > (l.length : Int) - (k : Int)) = false := by rw [decide_eq_false_iff_not]; omega
 have wlk : IntKind.i64.wrap ((l.length : Int) - (k : Int)) = (l.length : Int) - (k : Int) := Go.IntWalk.i64_in _ (by omega)
 have wk0 : IntKind.i64.wrap ((k : Int) + 0) = (k : Int) := by rw [Int.add_zero]; exact Go.IntWalk.i64_in _ (by omega)
 have wk1 : IntKind.i64.wrap ((k : Int) - 0) = (k : Int) := by rw [Int.sub_zero]; exact Go.IntWalk.i64_in _ (by omega)
 have wk2 : IntKind.i64.wrap (k : Int) = (k : Int) := Go.IntWalk.i64_in _ (by omega)
 obtain ⟨A, c, c0, c1, c2, hlt, hfr, hc1, hc2, hr⟩ := h.cells
 have HI := Lh h
 have HZ := Lh hz
 have h0 : ((0 : Int) != 0) = false := rfl
 have f1 := hfr 1
 clear h hr hfr hz
 go_enter Tryz.func127, Tryz.ntmps127
 go_wp2_with fail
 refine wp_region_held_drew (S := fun W => Chg Non w W) (by kernel_rfl) ((Chg.refl Non _).drew) (fun hHeld => ?_)
 clear hHeld
 refine hp 0 11 (.int .i64 0) rfl ((Chg.refl Non _).drew) ?_
 refine hp 1 12 (.pointer (some ⟨p, 0, none⟩)) rfl ((Chg.refl Non _).drew) ?_
 refine hp 2 13 (.pointer (some ⟨p, 0, none⟩)) rfl ((Chg.refl Non _).drew) ?_
 refine hp 3 14 (.pointer (some ⟨p, 0, none⟩)) rfl ((Chg.refl Non _).drew) ?_
 refine hp 4 15 (.slice A l.length c) rfl ((Chg.refl Non _).drew) ?_ (he := (fun W hW => by have hq := hW.cell_some c0 (fun e => e); go_simp))
 refine hp 5 16 (.int .i64 l.length) rfl ((Chg.refl Non _).drew) ?_
 refine hp 6 17 (.pointer (some ⟨p, 0, none⟩)) rfl ((Chg.refl Non _).drew) ?_
 refine hp 7 18 (.pointer (some ⟨p, 0, none⟩)) rfl ((Chg.refl Non _).drew) ?_
 refine hp 8 19 (.pointer (some ⟨p, 1, none⟩)) rfl ((Chg.refl Non _).drew) ?_
 refine hp 9 20 (.int .i64 k) rfl ((Chg.refl Non _).drew) ?_ (he := (fun W hW => by have hq := hW.cell_some c1 (fun e => e); go_simp))
 refine hp 10 21 (.int .i64 ((l.length : Int) - (k : Int))) rfl ((Chg.refl Non _).drew) ?_
 refine hp 11 22 (.bool false) rfl ((Chg.refl Non _).drew) ?_
 refine hdn ?_ _
 have HI := Lh ((HI.out.non ((Chg.refl Non _).drew)).setAt k)
 have HG : Hid (Chg (fun x => x = p) w (w.drew.setCell ⟨p, 1, none⟩ (.int .i64 (k : Nat)))) := Lh (((Chg.refl (fun x => x = p) w).drew).setCell (p := ⟨p, 1, none⟩) (.inl rfl) _)
 have c1 : w.drew.cell? ⟨p, 1, none⟩ = some (.int .i64 (k : Nat)) := c1
 have f1 : w.drew.frozen? ⟨p, 1, none⟩ = false := f1
 have hlt : p < w.drew.heap.size := hlt
 clear c0 c2 hc1 hc2
 generalize w.drew = w9 at *
 go_wp2_with fail
 generalize w9.setCell ⟨p, 1, none⟩ (.int .i64 (k : Nat)) = w1 at HI HG ⊢
 clear c1 f1 hlt
 obtain ⟨A3, c3, c0, c1, c2, hlt, hfr, hc1, hc2, hr⟩ := HI.out.cells
 obtain ⟨b, o, rfl, _, _⟩ := hr.at_ (by have := List.length_pos_iff.2 HZ.out; omega)
 have HCp := Lh (fun X cc W => rCopyNil X cc W)
 have hkc : (k : Int) ≤ (c3 : Int) := by omega
 clear hr hfr
 by_cases hck : c3 = k
 ·obtain rfl : k = c3 := hck.symm
  refine wp_region_held_drew (S := fun W => Chg Non w1 W) (by kernel_rfl) ((Chg.refl Non _).drew) (fun hHeld => ?_)
  clear hHeld
  refine hp 0 35 (.pointer (some ⟨p, 0, none⟩)) rfl ((Chg.refl Non _).drew) ?_
  refine hp 1 36 (.pointer (some ⟨p, 0, none⟩)) rfl ((Chg.refl Non _).drew) ?_
  refine hp 2 37 (.pointer (some ⟨p, 0, none⟩)) rfl ((Chg.refl Non _).drew) ?_
  refine hp 3 38 (.slice (some ⟨b, o, none⟩) l.length k) rfl ((Chg.refl Non _).drew) ?_ (he := (fun W hW => by have hq := hW.cell_some c0 (fun e => e); go_simp))
  refine hp 4 39 (.pointer (some ⟨p, 0, none⟩)) rfl ((Chg.refl Non _).drew) ?_
  refine hp 5 40 (.pointer (some ⟨p, 0, none⟩)) rfl ((Chg.refl Non _).drew) ?_
  refine hp 6 41 (.pointer (some ⟨p, 1, none⟩)) rfl ((Chg.refl Non _).drew) ?_
  refine hp 7 42 (.int .i64 k) rfl ((Chg.refl Non _).drew) ?_ (he := (fun W hW => by have hq := hW.cell_some c1 (fun e => e); go_simp))
  refine hp 8 43 (.int .i64 0) rfl ((Chg.refl Non _).drew) ?_
  refine hp 9 44 (.int .i64 k) rfl ((Chg.refl Non _).drew) ?_
  refine hp 10 45 (.pointer (some ⟨p, 0, none⟩)) rfl ((Chg.refl Non _).drew) ?_
  refine hp 11 46 (.pointer (some ⟨p, 0, none⟩)) rfl ((Chg.refl Non _).drew) ?_
  refine hp 12 47 (.pointer (some ⟨p, 1, none⟩)) rfl ((Chg.refl Non _).drew) ?_
  refine hp 13 48 (.int .i64 k) rfl ((Chg.refl Non _).drew) ?_ (he := (fun W hW => by have hq := hW.cell_some c1 (fun e => e); go_simp))
  refine hp 14 49 (.slice (some ⟨b, o, none⟩) 0 0) rfl ((Chg.refl Non _).drew) ?_
  refine h1o 15 rfl ?_
  intro K hK
  go_simp
  refine (HCp.out _ _ _).mono ?_
  rintro e u ⟨rfl, rfl⟩
  refine hK.out _ _ ((Chg.refl Non _).drew) (fun _ => ?_)
  clear hK K
  refine hp 16 4 (.slice none 0 0) rfl ((Chg.refl Non _).drew) ?_
  refine hp 17 5 (.bool true) rfl ((Chg.refl Non _).drew) ?_
  refine hdn ?_ _
  go_wp2_with fail
  go_ret2
  exact ⟨rfl, HI.out.non ((Chg.refl Non _).drew), HG.out.drew⟩
 ·refine wp_region_held_drew (S := fun W => Chg Non w1 W) (by kernel_rfl) ((Chg.refl Non _).drew) (fun hHeld => ?_)
  clear hHeld
  refine hp 0 35 (.pointer (some ⟨p, 0, none⟩)) rfl ((Chg.refl Non _).drew) ?_
  refine hp 1 36 (.pointer (some ⟨p, 0, none⟩)) rfl ((Chg.refl Non _).drew) ?_
  refine hp 2 37 (.pointer (some ⟨p, 0, none⟩)) rfl ((Chg.refl Non _).drew) ?_
  refine hp 3 38 (.slice (some ⟨b, o, none⟩) l.length c3) rfl ((Chg.refl Non _).drew) ?_ (he := (fun W hW => by have hq := hW.cell_some c0 (fun e => e); go_simp))
  refine hp 4 39 (.pointer (some ⟨p, 0, none⟩)) rfl ((Chg.refl Non _).drew) ?_
  refine hp 5 40 (.pointer (some ⟨p, 0, none⟩)) rfl ((Chg.refl Non _).drew) ?_
  refine hp 6 41 (.pointer (some ⟨p, 1, none⟩)) rfl ((Chg.refl Non _).drew) ?_
  refine hp 7 42 (.int .i64 k) rfl ((Chg.refl Non _).drew) ?_ (he := (fun W hW => by have hq := hW.cell_some c1 (fun e => e); go_simp))
  refine hp 8 43 (.int .i64 0) rfl ((Chg.refl Non _).drew) ?_
  refine hp 9 44 (.int .i64 k) rfl ((Chg.refl Non _).drew) ?_
  refine hp 10 45 (.pointer (some ⟨p, 0, none⟩)) rfl ((Chg.refl Non _).drew) ?_
  refine hp 11 46 (.pointer (some ⟨p, 0, none⟩)) rfl ((Chg.refl Non _).drew) ?_
  refine hp 12 47 (.pointer (some ⟨p, 1, none⟩)) rfl ((Chg.refl Non _).drew) ?_
  refine hp 13 48 (.int .i64 k) rfl ((Chg.refl Non _).drew) ?_ (he := (fun W hW => by have hq := hW.cell_some c1 (fun e => e); go_simp))
  refine hp 14 49 (.slice (some ⟨b, o + k, none⟩) 0 (c3 - k)) rfl ((Chg.refl Non _).drew) ?_
  refine h1o 15 rfl ?_
  intro K hK
  go_simp
  refine (HCp.out _ _ _).mono ?_
  rintro e u ⟨rfl, rfl⟩
  refine hK.out _ _ ((Chg.refl Non _).drew) (fun _ => ?_)
  clear hK K
  refine hp 16 4 (.slice none 0 0) rfl ((Chg.refl Non _).drew) ?_
  refine hp 17 5 (.bool true) rfl ((Chg.refl Non _).drew) ?_
  refine hdn ?_ _
  go_wp2_with fail
  go_ret2
  exact ⟨rfl, HI.out.non ((Chg.refl Non _).drew), HG.out.drew⟩
theorem rNext_any (B : Nat → Prop) (p n : Nat) (l : List UInt8) (k : Nat) (hn : k + n ≤ l.length) (hz : l ≠ []) (w : World) (h : IsRd B p w l k 0) (hl : l.length ≤ 65536) :
  Calls Tryz.prog 127 #[.pointer (some ⟨p, 0, none⟩), .int .i64 n] w fun e w' => ∃ A2 c2, e = .returned (.tuple #[.slice A2 n c2, .bool true]) ∧ (n = 0 → A2 = none ∧ c2 = 0) ∧ Own w.heap.size w' A2 ((l.drop k).take n) ∧ n ≤ c2 ∧ c2 ≤ maxLen ∧ IsRd B p w' l (k + n) 0 ∧ Chg (fun x => x = p) w w' := by
 by_cases h0 : n = 0
 ·subst h0
  refine (rNext_zero B p l k hn hz w h hl).mono ?_
  rintro e w' ⟨rfl, h1, h2⟩
  exact ⟨none, 0, rfl, fun _ => ⟨rfl, rfl⟩, Own.nil _ _ _, Nat.le_refl _, by simp, h1, h2⟩
 ·exact (rNext_okL B p n l k hn (by omega) (by omega) w h hl).mono (fun e w' ⟨A2, c2, h1, h2, h3, h4, h5, h6⟩ => ⟨A2, c2, h1, fun e => absurd e h0, h2, h3, h4, h5, h6⟩)
theorem rRBytes (B : Nat → Prop) (p : Nat) (l rest : List UInt8) (er : Int) (w : World) (h : RdSt B p w l rest er) (hl : l.length ≤ 65536) :
  Calls Tryz.prog 132 #[.pointer (some ⟨p, 0, none⟩)] w fun e w' => (∃ A c, e = .returned (.slice A (rdBytes rest er).1.length c) ∧ ((rdBytes rest er).1 = [] → A = none ∧ c = 0) ∧ (rdBytes rest er).1.length ≤ c ∧ c ≤ maxLen ∧ Own w.heap.size w' A (rdBytes rest er).1) ∧ RdSt B p w' l (rdBytes rest er).2.1 (rdBytes rest er).2.2 ∧ Chg (fun x => x = p) w w' := by
 obtain ⟨k, hI, hs⟩ := h
 by_cases he : er = 0
 ·subst he
  obtain ⟨hd, hk⟩ := hs rfl
  have hrl : rest.length = l.length - k := by rw [← hd, List.length_drop]
  by_cases h4 : 4 ≤ rest.length
  ·have HN := Lh (rNumb_ok B p 4 l k w hI (by omega) (by omega) (by omega) hl)
   rw [hd] at HN
   have hdd : l.drop (k + 4) = rest.drop 4 := by rw [← hd, List.drop_drop]
   obtain ⟨X, hX⟩ : ∃ X, num (rest.take 4) = X := ⟨_, rfl⟩
   rw [hX] at HN
   have hxb : X < 4294967296 := by rw [← hX]; have := num_bound (rest.take 4); rw [List.length_take, Nat.min_eq_left h4] at this; exact this
   by_cases h6 : X ≤ 65536
   ·have hgt : decide ((X : Int) > 65536) = false := by simp; omega
    have hcv : IntKind.i64.wrap (X : Int) = (X : Int) := Go.IntWalk.i64_in _ (by omega)
    have hz : l ≠ [] := by rintro rfl; simp only [List.length_nil] at hrl; omega
    have hdl : (rest.drop 4).length = l.length - k - 4 := by rw [List.length_drop, hrl]
    by_cases hle : X ≤ (rest.drop 4).length
    ·have e1 : rdBytes rest 0 = ((rest.drop 4).take X, (rest.drop 4).drop X, 0) := by
      unfold rdBytes
      rw [if_pos rfl, if_pos h4, hX, if_pos h6, if_pos hle]
     have hd2 : l.drop (k + 4 + X) = (rest.drop 4).drop X := by rw [← hdd, List.drop_drop]
     have HX := Lh (fun W (hI : IsRd B p W l (k + 4) 0) => rNext_any B p X l (k + 4) (by omega) hz W hI hl)
     rw [hdd] at HX
     rw [e1]
     clear hI hs hX e1 hz
     go_enter Tryz.func132, Tryz.ntmps132
     go_wp2_with fail
     refine HN.out.mono ?_
     rintro e w1 ⟨rfl, h1, h2⟩
     have HI := Lh h1
     have HG := Lh h2
     clear h1 h2
     go_wp2_with fail
     refine (HX.out _ HI.out).mono ?_
     rintro e w2 ⟨A2, c2, rfl, gz, g1, g2, g3, g4, g5⟩
     have hlen : ((rest.drop 4).take X).length = X := by rw [List.length_take]; omega
     have HB := Lh (And.intro (g1.mono HG.out.size) (And.intro g2 (And.intro g3 (And.intro gz hlen))))
     have HI2 := Lh g4
     have HG2 := Lh (HG.out.trans g5 (fun x e => e) (fun x _ e => e))
     clear g1 g2 g3 g4 g5 gz hlen
     go_wp2_with fail
     go_ret
     exact ⟨⟨A2, c2, by rw [HB.out.2.2.2.2]; rfl, fun e => HB.out.2.2.2.1 (by rw [← HB.out.2.2.2.2, e]; rfl), by rw [HB.out.2.2.2.2]; exact HB.out.2.1, HB.out.2.2.1, HB.out.1⟩, ⟨k + 4 + X, HI2.out, fun _ => ⟨hd2, by omega⟩⟩, HG2.out⟩
    ·have e1 : rdBytes rest 0 = ([], [], 50) := by
      unfold rdBytes
      rw [if_pos rfl, if_pos h4, hX, if_pos h6, if_neg hle]
     have HX := Lh (fun W (hI : IsRd B p W l (k + 4) 0) => rNext_short B p X l (k + 4) (by omega) (by omega) (by omega) W hI hl)
     rw [e1]
     clear hI hs hX e1 hz
     go_enter Tryz.func132, Tryz.ntmps132
     go_wp2_with fail
     refine HN.out.mono ?_
     rintro e w1 ⟨rfl, h1, h2⟩
     have HI := Lh h1
     have HG := Lh h2
     clear h1 h2
     go_wp2_with fail
     refine (HX.out _ HI.out).mono ?_
     rintro e w2 ⟨rfl, g4, g5⟩
     have HI2 := Lh g4
     have HG2 := Lh (HG.out.trans g5 (fun x e => e) (fun x _ e => e))
     clear g4 g5
     go_wp2_with fail
     go_ret
     exact ⟨⟨none, 0, rfl, fun _ => ⟨rfl, rfl⟩, Nat.le_refl _, by simp, Own.nil _ _ _⟩, ⟨k + 4, HI2.out, fun e => by simp at e⟩, HG2.out⟩
   ·have hgt : decide ((X : Int) > 65536) = true := by simp; omega
    have e1 : rdBytes rest 0 = ([], [], 50) := by
     unfold rdBytes
     rw [if_pos rfl, if_pos h4, hX, if_neg h6]
    rw [e1]
    clear hI hs hX e1
    go_enter Tryz.func132, Tryz.ntmps132
    go_wp2_with fail
    refine HN.out.mono ?_
    rintro e w1 ⟨rfl, h1, h2⟩
    obtain ⟨A, c, c0, c1, c2, hlt, hfr, _, _, _⟩ := h1.cells
    have f2 := hfr 2
    have HI := Lh (h1.setEr 50)
    have HG := Lh (h2.setCell (p := ⟨p, 2, none⟩) (.inl rfl) (.int .i64 50))
    clear h1 h2 hfr
    go_wp2_with fail
    go_ret
    exact ⟨⟨none, 0, rfl, fun _ => ⟨rfl, rfl⟩, Nat.le_refl _, by simp, Own.nil _ _ _⟩, ⟨k + 4, HI.out, fun e => by simp at e⟩, HG.out⟩
  ·have e1 : rdBytes rest 0 = ([], [], 50) := by
    unfold rdBytes
    rw [if_pos rfl, if_neg h4]
   have HN := Lh (rNumb_short B p 4 l k w hI hk (by omega) (by omega) hl)
   have HX := Lh (fun W (hI : IsRd B p W l k 50) => rNext_broken B p 0 l k 50 (by decide) W hI hl)
   rw [e1]
   clear hI hs e1
   go_enter Tryz.func132, Tryz.ntmps132
   go_wp2_with fail
   refine HN.out.mono ?_
   rintro e w1 ⟨rfl, h1, h2⟩
   have HI := Lh h1
   have HG := Lh h2
   clear h1 h2
   go_wp2_with fail
   refine (HX.out _ HI.out).mono ?_
   rintro e w2 ⟨rfl, rfl⟩
   go_wp2_with fail
   go_ret
   exact ⟨⟨none, 0, rfl, fun _ => ⟨rfl, rfl⟩, Nat.le_refl _, by simp, Own.nil _ _ _⟩, ⟨k, HI.out, fun e => by simp at e⟩, HG.out⟩
 ·have e1 : rdBytes rest er = ([], rest, er) := by
   unfold rdBytes
   rw [if_neg he]
  have HN := Lh (rNumb_broken B p 4 l k er he w hI hl)
  have HX := Lh (rNext_broken B p 0 l k er he w hI hl)
  have HI := Lh hI
  have HSt := Lh hs
  rw [e1]
  clear hI hs e1
  go_enter Tryz.func132, Tryz.ntmps132
  go_wp2_with fail
  refine HN.out.mono ?_
  rintro e w1 ⟨rfl, rfl⟩
  go_wp2_with fail
  refine HX.out.mono ?_
  rintro e w2 ⟨rfl, rfl⟩
  go_wp2_with fail
  go_ret
  exact ⟨⟨none, 0, rfl, fun _ => ⟨rfl, rfl⟩, Nat.le_refl _, by simp, Own.nil _ _ _⟩, ⟨k, HI.out, HSt.out⟩, Chg.refl _ _⟩
theorem rCount_er (B : Nat → Prop) (p top : Nat) (l rest : List UInt8) (v er : Int) (he : er ≠ 0) (w : World) (hl : l.length ≤ 65536) (HN : Hid (Calls Tryz.prog 95 #[.pointer (some ⟨p, 0, none⟩)] w fun e w' => e = .returned (.int .i64 v) ∧ RdSt B p w' l rest er ∧ Chg (fun x => x = p) w w')) :
  Calls Tryz.prog 129 #[.pointer (some ⟨p, 0, none⟩), .int .i64 top] w fun e w' => e = .returned (.int .i64 0) ∧ RdSt B p w' l rest er ∧ Chg (fun x => x = p) w w' := by
 have hb : (er == 0) = false := by simpa using he
 have hb2 : (er != 0) = true := by simpa using he
 go_enter Tryz.func129, Tryz.ntmps129
 go_wp2_with fail
 refine HN.out.mono ?_
 rintro e w1 ⟨rfl, ⟨k, h1, hs⟩, h2⟩
 obtain ⟨A, c, c0, c1, c2, hlt, hfr, hc1, hc2, hr⟩ := h1.cells
 have f2 := hfr 2
 have HI := Lh h1
 have HG := Lh h2
 have HS := Lh hs
 clear h1 h2 hr hfr HN hs
 go_wp2_with fail
 refine wp_region_held_drew (S := fun W => Chg Non w1 W) (by kernel_rfl) ((Chg.refl Non _).drew) (fun hHeld => ?_)
 clear hHeld
 refine hp 0 8 (.pointer (some ⟨p, 0, none⟩)) rfl ((Chg.refl Non _).drew) ?_
 refine hp 1 9 (.pointer (some ⟨p, 0, none⟩)) rfl ((Chg.refl Non _).drew) ?_
 refine hp 2 10 (.pointer (some ⟨p, 2, none⟩)) rfl ((Chg.refl Non _).drew) ?_
 refine hp 3 11 (.int .i64 er) rfl ((Chg.refl Non _).drew) ?_ (he := (fun W hW => by have hq := hW.cell_some c2 (fun e => e); go_simp))
 refine hp 4 12 (.bool false) rfl ((Chg.refl Non _).drew) ?_
 refine hp 5 13 (.bool false) rfl ((Chg.refl Non _).drew) ?_
 refine hs 6 14 rfl ((Chg.refl Non _).drew) ?_
 refine hs 7 15 rfl ((Chg.refl Non _).drew) ?_
 refine hs 8 16 rfl ((Chg.refl Non _).drew) ?_
 refine hs 9 17 rfl ((Chg.refl Non _).drew) ?_
 refine hs 10 18 rfl ((Chg.refl Non _).drew) ?_
 refine hs 11 19 rfl ((Chg.refl Non _).drew) ?_
 refine hs 12 20 rfl ((Chg.refl Non _).drew) ?_
 refine hs 13 21 rfl ((Chg.refl Non _).drew) ?_
 refine hs 14 22 rfl ((Chg.refl Non _).drew) ?_
 refine hs 15 23 rfl ((Chg.refl Non _).drew) ?_
 refine hs 16 24 rfl ((Chg.refl Non _).drew) ?_
 refine hs 17 25 rfl ((Chg.refl Non _).drew) ?_
 refine hs 18 26 rfl ((Chg.refl Non _).drew) ?_
 refine hs 19 27 rfl ((Chg.refl Non _).drew) ?_
 refine hs 20 28 rfl ((Chg.refl Non _).drew) ?_
 refine hs 21 29 rfl ((Chg.refl Non _).drew) ?_
 refine hs 22 30 rfl ((Chg.refl Non _).drew) ?_
 refine hs 23 31 rfl ((Chg.refl Non _).drew) ?_
 refine hs 24 32 rfl ((Chg.refl Non _).drew) ?_
 refine hs 25 33 rfl ((Chg.refl Non _).drew) ?_
 refine hs 26 34 rfl ((Chg.refl Non _).drew) ?_
 refine hp 27 35 (.bool false) rfl ((Chg.refl Non _).drew) ?_
 refine hdn ?_ _
 have HI := Lh (HI.out.non ((Chg.refl Non _).drew))
 have HG  := Lh (HG.out.drew)
 have c2 : w1.drew.cell? ⟨p, 2, none⟩ = some (.int .i64 er) := c2
 have f2 : w1.drew.frozen? ⟨p, 2, none⟩ = false := f2
 have hlt : p < w1.drew.heap.size := hlt
 clear c0 c1
 generalize w1.drew = w9 at *
 go_wp2_with fail
 go_ret
 exact ⟨rfl, ⟨k, HI.out, HS.out⟩, HG.out⟩
theorem rCount_neg (B : Nat → Prop) (p top : Nat) (l rest : List UInt8) (v er : Int) (he : er = 0) (hv : v < 0) (w : World) (hl : l.length ≤ 65536) (HN : Hid (Calls Tryz.prog 95 #[.pointer (some ⟨p, 0, none⟩)] w fun e w' => e = .returned (.int .i64 v) ∧ RdSt B p w' l rest er ∧ Chg (fun x => x = p) w w')) :
  Calls Tryz.prog 129 #[.pointer (some ⟨p, 0, none⟩), .int .i64 top] w fun e w' => e = .returned (.int .i64 0) ∧ RdSt B p w' l [] 50 ∧ Chg (fun x => x = p) w w' := by
 subst he
 have hv : decide (v < 0) = true := by simpa using hv
 go_enter Tryz.func129, Tryz.ntmps129
 go_wp2_with fail
 refine HN.out.mono ?_
 rintro e w1 ⟨rfl, ⟨k, h1, hs⟩, h2⟩
 obtain ⟨A, c, c0, c1, c2, hlt, hfr, hc1, hc2, hr⟩ := h1.cells
 have f2 := hfr 2
 have HI := Lh h1
 have HG := Lh h2
 have HS := Lh hs
 clear h1 h2 hr hfr HN hs
 go_wp2_with fail
 refine wp_region_held_drew (S := fun W => Chg Non w1 W) (by kernel_rfl) ((Chg.refl Non _).drew) (fun hHeld => ?_)
 clear hHeld
 refine hp 0 8 (.pointer (some ⟨p, 0, none⟩)) rfl ((Chg.refl Non _).drew) ?_
 refine hp 1 9 (.pointer (some ⟨p, 0, none⟩)) rfl ((Chg.refl Non _).drew) ?_
 refine hp 2 10 (.pointer (some ⟨p, 2, none⟩)) rfl ((Chg.refl Non _).drew) ?_
 refine hp 3 11 (.int .i64 0) rfl ((Chg.refl Non _).drew) ?_ (he := (fun W hW => by have hq := hW.cell_some c2 (fun e => e); go_simp))
 refine hp 4 12 (.bool true) rfl ((Chg.refl Non _).drew) ?_
 refine hp 5 13 (.bool true) rfl ((Chg.refl Non _).drew) ?_
 refine hp 6 14 (.int .i64 v) rfl ((Chg.refl Non _).drew) ?_
 refine hp 7 15 (.bool true) rfl ((Chg.refl Non _).drew) ?_
 refine hp 8 16 (.bool true) rfl ((Chg.refl Non _).drew) ?_
 refine hs 9 17 rfl ((Chg.refl Non _).drew) ?_
 refine hs 10 18 rfl ((Chg.refl Non _).drew) ?_
 refine hs 11 19 rfl ((Chg.refl Non _).drew) ?_
 refine hp 12 20 (.bool true) rfl ((Chg.refl Non _).drew) ?_
 refine hp 13 21 (.bool true) rfl ((Chg.refl Non _).drew) ?_
 refine hs 14 22 rfl ((Chg.refl Non _).drew) ?_
 refine hs 15 23 rfl ((Chg.refl Non _).drew) ?_
 refine hs 16 24 rfl ((Chg.refl Non _).drew) ?_
 refine hs 17 25 rfl ((Chg.refl Non _).drew) ?_
 refine hs 18 26 rfl ((Chg.refl Non _).drew) ?_
 refine hs 19 27 rfl ((Chg.refl Non _).drew) ?_
 refine hs 20 28 rfl ((Chg.refl Non _).drew) ?_
 refine hs 21 29 rfl ((Chg.refl Non _).drew) ?_
 refine hs 22 30 rfl ((Chg.refl Non _).drew) ?_
 refine hs 23 31 rfl ((Chg.refl Non _).drew) ?_
 refine hs 24 32 rfl ((Chg.refl Non _).drew) ?_
 refine hs 25 33 rfl ((Chg.refl Non _).drew) ?_
 refine hp 26 34 (.bool true) rfl ((Chg.refl Non _).drew) ?_
 refine hp 27 35 (.bool true) rfl ((Chg.refl Non _).drew) ?_
 refine hdn ?_ _
 have HI := Lh ((HI.out.non ((Chg.refl Non _).drew)).setEr 50)
 have HG : Hid (Chg (fun x => x = p) w (w1.drew.setCell ⟨p, 2, none⟩ (.int .i64 50))) := Lh (HG.out.drew.setCell (p := ⟨p, 2, none⟩) (.inl rfl) _)
 have c2 : w1.drew.cell? ⟨p, 2, none⟩ = some (.int .i64 0) := c2
 have f2 : w1.drew.frozen? ⟨p, 2, none⟩ = false := f2
 have hlt : p < w1.drew.heap.size := hlt
 clear c0 c1
 generalize w1.drew = w9 at *
 go_wp2_with fail
 go_ret
 exact ⟨rfl, ⟨k, HI.out, fun e => by simp at e⟩, HG.out⟩
theorem rCount_top (B : Nat → Prop) (p top : Nat) (l rest : List UInt8) (v er : Int) (he : er = 0) (hv : 0 ≤ v) (ht : (top : Int) < v) (w : World) (hl : l.length ≤ 65536) (HN : Hid (Calls Tryz.prog 95 #[.pointer (some ⟨p, 0, none⟩)] w fun e w' => e = .returned (.int .i64 v) ∧ RdSt B p w' l rest er ∧ Chg (fun x => x = p) w w')) :
  Calls Tryz.prog 129 #[.pointer (some ⟨p, 0, none⟩), .int .i64 top] w fun e w' => e = .returned (.int .i64 0) ∧ RdSt B p w' l [] 50 ∧ Chg (fun x => x = p) w w' := by
 subst he
 have hv : decide (v < 0) = false := by simp; omega
 have ht : decide (v > (top : Int)) = true := by simp; omega
 go_enter Tryz.func129, Tryz.ntmps129
 go_wp2_with fail
 refine HN.out.mono ?_
 rintro e w1 ⟨rfl, ⟨k, h1, hs⟩, h2⟩
 obtain ⟨A, c, c0, c1, c2, hlt, hfr, hc1, hc2, hr⟩ := h1.cells
 have f2 := hfr 2
 have HI := Lh h1
 have HG := Lh h2
 have HS := Lh hs
 clear h1 h2 hr hfr HN hs
 go_wp2_with fail
 refine wp_region_held_drew (S := fun W => Chg Non w1 W) (by kernel_rfl) ((Chg.refl Non _).drew) (fun hHeld => ?_)
 clear hHeld
 refine hp 0 8 (.pointer (some ⟨p, 0, none⟩)) rfl ((Chg.refl Non _).drew) ?_
 refine hp 1 9 (.pointer (some ⟨p, 0, none⟩)) rfl ((Chg.refl Non _).drew) ?_
 refine hp 2 10 (.pointer (some ⟨p, 2, none⟩)) rfl ((Chg.refl Non _).drew) ?_
 refine hp 3 11 (.int .i64 0) rfl ((Chg.refl Non _).drew) ?_ (he := (fun W hW => by have hq := hW.cell_some c2 (fun e => e); go_simp))
 refine hp 4 12 (.bool true) rfl ((Chg.refl Non _).drew) ?_
 refine hp 5 13 (.bool true) rfl ((Chg.refl Non _).drew) ?_
 refine hp 6 14 (.int .i64 v) rfl ((Chg.refl Non _).drew) ?_
 refine hp 7 15 (.bool false) rfl ((Chg.refl Non _).drew) ?_
 refine hp 8 16 (.bool false) rfl ((Chg.refl Non _).drew) ?_
 refine hp 9 17 (.int .i64 v) rfl ((Chg.refl Non _).drew) ?_
 refine hp 10 18 (.int .i64 top) rfl ((Chg.refl Non _).drew) ?_
 refine hp 11 19 (.bool true) rfl ((Chg.refl Non _).drew) ?_
 refine hp 12 20 (.bool true) rfl ((Chg.refl Non _).drew) ?_
 refine hp 13 21 (.bool true) rfl ((Chg.refl Non _).drew) ?_
 refine hs 14 22 rfl ((Chg.refl Non _).drew) ?_
 refine hs 15 23 rfl ((Chg.refl Non _).drew) ?_
 refine hs 16 24 rfl ((Chg.refl Non _).drew) ?_
 refine hs 17 25 rfl ((Chg.refl Non _).drew) ?_
 refine hs 18 26 rfl ((Chg.refl Non _).drew) ?_
 refine hs 19 27 rfl ((Chg.refl Non _).drew) ?_
 refine hs 20 28 rfl ((Chg.refl Non _).drew) ?_
 refine hs 21 29 rfl ((Chg.refl Non _).drew) ?_
 refine hs 22 30 rfl ((Chg.refl Non _).drew) ?_
 refine hs 23 31 rfl ((Chg.refl Non _).drew) ?_
 refine hs 24 32 rfl ((Chg.refl Non _).drew) ?_
 refine hs 25 33 rfl ((Chg.refl Non _).drew) ?_
 refine hp 26 34 (.bool true) rfl ((Chg.refl Non _).drew) ?_
 refine hp 27 35 (.bool true) rfl ((Chg.refl Non _).drew) ?_
 refine hdn ?_ _
 have HI := Lh ((HI.out.non ((Chg.refl Non _).drew)).setEr 50)
 have HG : Hid (Chg (fun x => x = p) w (w1.drew.setCell ⟨p, 2, none⟩ (.int .i64 50))) := Lh (HG.out.drew.setCell (p := ⟨p, 2, none⟩) (.inl rfl) _)
 have c2 : w1.drew.cell? ⟨p, 2, none⟩ = some (.int .i64 0) := c2
 have f2 : w1.drew.frozen? ⟨p, 2, none⟩ = false := f2
 have hlt : p < w1.drew.heap.size := hlt
 clear c0 c1
 generalize w1.drew = w9 at *
 go_wp2_with fail
 go_ret
 exact ⟨rfl, ⟨k, HI.out, fun e => by simp at e⟩, HG.out⟩
theorem rCount_long (B : Nat → Prop) (p top : Nat) (l rest : List UInt8) (v er : Int) (he : er = 0) (hv : 0 ≤ v) (ht : v ≤ (top : Int)) (hq : (rest.length : Int) < v) (w : World) (hl : l.length ≤ 65536) (HN : Hid (Calls Tryz.prog 95 #[.pointer (some ⟨p, 0, none⟩)] w fun e w' => e = .returned (.int .i64 v) ∧ RdSt B p w' l rest er ∧ Chg (fun x => x = p) w w')) :
  Calls Tryz.prog 129 #[.pointer (some ⟨p, 0, none⟩), .int .i64 top] w fun e w' => e = .returned (.int .i64 0) ∧ RdSt B p w' l [] 50 ∧ Chg (fun x => x = p) w w' := by
 subst he
 have hv : decide (v < 0) = false := by simp; omega
 have ht : decide (v > (top : Int)) = false := by simp; omega
 go_enter Tryz.func129, Tryz.ntmps129
 go_wp2_with fail
 refine HN.out.mono ?_
 rintro e w1 ⟨rfl, ⟨k, h1, hs⟩, h2⟩
 obtain ⟨A, c, c0, c1, c2, hlt, hfr, hc1, hc2, hr⟩ := h1.cells
 have f2 := hfr 2
 have HI := Lh h1
 have HG := Lh h2
 have HS := Lh hs
 obtain ⟨hd, hk⟩ := hs rfl
 have hrl : rest.length = l.length - k := by rw [← hd, List.length_drop]
 have hq : decide (v > (l.length : Int) - (k : Int)) = true := by simp; omega
 have wlk : IntKind.i64.wrap ((l.length : Int) - (k : Int)) = (l.length : Int) - (k : Int) := Go.IntWalk.i64_in _ (by omega)
 clear hd hrl
 clear h1 h2 hr hfr HN hs
 go_wp2_with fail
 refine wp_region_held_drew (S := fun W => Chg Non w1 W) (by kernel_rfl) ((Chg.refl Non _).drew) (fun hHeld => ?_)
 clear hHeld
 refine hp 0 8 (.pointer (some ⟨p, 0, none⟩)) rfl ((Chg.refl Non _).drew) ?_
 refine hp 1 9 (.pointer (some ⟨p, 0, none⟩)) rfl ((Chg.refl Non _).drew) ?_
 refine hp 2 10 (.pointer (some ⟨p, 2, none⟩)) rfl ((Chg.refl Non _).drew) ?_
 refine hp 3 11 (.int .i64 0) rfl ((Chg.refl Non _).drew) ?_ (he := (fun W hW => by have hq := hW.cell_some c2 (fun e => e); go_simp))
 refine hp 4 12 (.bool true) rfl ((Chg.refl Non _).drew) ?_
 refine hp 5 13 (.bool true) rfl ((Chg.refl Non _).drew) ?_
 refine hp 6 14 (.int .i64 v) rfl ((Chg.refl Non _).drew) ?_
 refine hp 7 15 (.bool false) rfl ((Chg.refl Non _).drew) ?_
 refine hp 8 16 (.bool false) rfl ((Chg.refl Non _).drew) ?_
 refine hp 9 17 (.int .i64 v) rfl ((Chg.refl Non _).drew) ?_
 refine hp 10 18 (.int .i64 top) rfl ((Chg.refl Non _).drew) ?_
 refine hp 11 19 (.bool false) rfl ((Chg.refl Non _).drew) ?_
 refine hp 12 20 (.bool false) rfl ((Chg.refl Non _).drew) ?_
 refine hp 13 21 (.bool false) rfl ((Chg.refl Non _).drew) ?_
 refine hp 14 22 (.int .i64 v) rfl ((Chg.refl Non _).drew) ?_
 refine hp 15 23 (.pointer (some ⟨p, 0, none⟩)) rfl ((Chg.refl Non _).drew) ?_
 refine hp 16 24 (.pointer (some ⟨p, 0, none⟩)) rfl ((Chg.refl Non _).drew) ?_
 refine hp 17 25 (.pointer (some ⟨p, 0, none⟩)) rfl ((Chg.refl Non _).drew) ?_
 refine hp 18 26 (.slice A l.length c) rfl ((Chg.refl Non _).drew) ?_ (he := (fun W hW => by have hq := hW.cell_some c0 (fun e => e); go_simp))
 refine hp 19 27 (.int .i64 l.length) rfl ((Chg.refl Non _).drew) ?_
 refine hp 20 28 (.pointer (some ⟨p, 0, none⟩)) rfl ((Chg.refl Non _).drew) ?_
 refine hp 21 29 (.pointer (some ⟨p, 0, none⟩)) rfl ((Chg.refl Non _).drew) ?_
 refine hp 22 30 (.pointer (some ⟨p, 1, none⟩)) rfl ((Chg.refl Non _).drew) ?_
 refine hp 23 31 (.int .i64 k) rfl ((Chg.refl Non _).drew) ?_ (he := (fun W hW => by have hq := hW.cell_some c1 (fun e => e); go_simp))
 refine hp 24 32 (.int .i64 ((l.length : Int) - (k : Int))) rfl ((Chg.refl Non _).drew) ?_
 refine hp 25 33 (.bool true) rfl ((Chg.refl Non _).drew) ?_
 refine hp 26 34 (.bool true) rfl ((Chg.refl Non _).drew) ?_
 refine hp 27 35 (.bool true) rfl ((Chg.refl Non _).drew) ?_
 refine hdn ?_ _
 have HI := Lh ((HI.out.non ((Chg.refl Non _).drew)).setEr 50)
 have HG : Hid (Chg (fun x => x = p) w (w1.drew.setCell ⟨p, 2, none⟩ (.int .i64 50))) := Lh (HG.out.drew.setCell (p := ⟨p, 2, none⟩) (.inl rfl) _)
 have c2 : w1.drew.cell? ⟨p, 2, none⟩ = some (.int .i64 0) := c2
 have f2 : w1.drew.frozen? ⟨p, 2, none⟩ = false := f2
 have hlt : p < w1.drew.heap.size := hlt
 clear c0 c1
 generalize w1.drew = w9 at *
 go_wp2_with fail
 go_ret
 exact ⟨rfl, ⟨k, HI.out, fun e => by simp at e⟩, HG.out⟩
theorem rCount_in (B : Nat → Prop) (p top : Nat) (l rest : List UInt8) (v er : Int) (he : er = 0) (hv : 0 ≤ v) (ht : v ≤ (top : Int)) (hq : v ≤ (rest.length : Int)) (w : World) (hl : l.length ≤ 65536) (HN : Hid (Calls Tryz.prog 95 #[.pointer (some ⟨p, 0, none⟩)] w fun e w' => e = .returned (.int .i64 v) ∧ RdSt B p w' l rest er ∧ Chg (fun x => x = p) w w')) :
  Calls Tryz.prog 129 #[.pointer (some ⟨p, 0, none⟩), .int .i64 top] w fun e w' => e = .returned (.int .i64 v) ∧ RdSt B p w' l rest 0 ∧ Chg (fun x => x = p) w w' := by
 subst he
 have hv : decide (v < 0) = false := by simp; omega
 have ht : decide (v > (top : Int)) = false := by simp; omega
 go_enter Tryz.func129, Tryz.ntmps129
 go_wp2_with fail
 refine HN.out.mono ?_
 rintro e w1 ⟨rfl, ⟨k, h1, hs⟩, h2⟩
 obtain ⟨A, c, c0, c1, c2, hlt, hfr, hc1, hc2, hr⟩ := h1.cells
 have f2 := hfr 2
 have HI := Lh h1
 have HG := Lh h2
 have HS := Lh hs
 obtain ⟨hd, hk⟩ := hs rfl
 have hrl : rest.length = l.length - k := by rw [← hd, List.length_drop]
 have hq : decide (v > (l.length : Int) - (k : Int)) = false := by simp; omega
 have wlk : IntKind.i64.wrap ((l.length : Int) - (k : Int)) = (l.length : Int) - (k : Int) := Go.IntWalk.i64_in _ (by omega)
 clear hd hrl
 clear h1 h2 hr hfr HN hs
 go_wp2_with fail
 refine wp_region_held_drew (S := fun W => Chg Non w1 W) (by kernel_rfl) ((Chg.refl Non _).drew) (fun hHeld => ?_)
 clear hHeld
 refine hp 0 8 (.pointer (some ⟨p, 0, none⟩)) rfl ((Chg.refl Non _).drew) ?_
 refine hp 1 9 (.pointer (some ⟨p, 0, none⟩)) rfl ((Chg.refl Non _).drew) ?_
 refine hp 2 10 (.pointer (some ⟨p, 2, none⟩)) rfl ((Chg.refl Non _).drew) ?_
 refine hp 3 11 (.int .i64 0) rfl ((Chg.refl Non _).drew) ?_ (he := (fun W hW => by have hq := hW.cell_some c2 (fun e => e); go_simp))
 refine hp 4 12 (.bool true) rfl ((Chg.refl Non _).drew) ?_
 refine hp 5 13 (.bool true) rfl ((Chg.refl Non _).drew) ?_
 refine hp 6 14 (.int .i64 v) rfl ((Chg.refl Non _).drew) ?_
 refine hp 7 15 (.bool false) rfl ((Chg.refl Non _).drew) ?_
 refine hp 8 16 (.bool false) rfl ((Chg.refl Non _).drew) ?_
 refine hp 9 17 (.int .i64 v) rfl ((Chg.refl Non _).drew) ?_
 refine hp 10 18 (.int .i64 top) rfl ((Chg.refl Non _).drew) ?_
 refine hp 11 19 (.bool false) rfl ((Chg.refl Non _).drew) ?_
 refine hp 12 20 (.bool false) rfl ((Chg.refl Non _).drew) ?_
 refine hp 13 21 (.bool false) rfl ((Chg.refl Non _).drew) ?_
 refine hp 14 22 (.int .i64 v) rfl ((Chg.refl Non _).drew) ?_
 refine hp 15 23 (.pointer (some ⟨p, 0, none⟩)) rfl ((Chg.refl Non _).drew) ?_
 refine hp 16 24 (.pointer (some ⟨p, 0, none⟩)) rfl ((Chg.refl Non _).drew) ?_
 refine hp 17 25 (.pointer (some ⟨p, 0, none⟩)) rfl ((Chg.refl Non _).drew) ?_
 refine hp 18 26 (.slice A l.length c) rfl ((Chg.refl Non _).drew) ?_ (he := (fun W hW => by have hq := hW.cell_some c0 (fun e => e); go_simp))
 refine hp 19 27 (.int .i64 l.length) rfl ((Chg.refl Non _).drew) ?_
 refine hp 20 28 (.pointer (some ⟨p, 0, none⟩)) rfl ((Chg.refl Non _).drew) ?_
 refine hp 21 29 (.pointer (some ⟨p, 0, none⟩)) rfl ((Chg.refl Non _).drew) ?_
 refine hp 22 30 (.pointer (some ⟨p, 1, none⟩)) rfl ((Chg.refl Non _).drew) ?_
 refine hp 23 31 (.int .i64 k) rfl ((Chg.refl Non _).drew) ?_ (he := (fun W hW => by have hq := hW.cell_some c1 (fun e => e); go_simp))
 refine hp 24 32 (.int .i64 ((l.length : Int) - (k : Int))) rfl ((Chg.refl Non _).drew) ?_
 refine hp 25 33 (.bool false) rfl ((Chg.refl Non _).drew) ?_
 refine hp 26 34 (.bool false) rfl ((Chg.refl Non _).drew) ?_
 refine hp 27 35 (.bool false) rfl ((Chg.refl Non _).drew) ?_
 refine hdn ?_ _
 have HI := Lh (HI.out.non ((Chg.refl Non _).drew))
 have HG  := Lh (HG.out.drew)
 have c2 : w1.drew.cell? ⟨p, 2, none⟩ = some (.int .i64 0) := c2
 have f2 : w1.drew.frozen? ⟨p, 2, none⟩ = false := f2
 have hlt : p < w1.drew.heap.size := hlt
 clear c0 c1
 generalize w1.drew = w9 at *
 go_wp2_with fail
 go_ret
 exact ⟨rfl, ⟨k, HI.out, fun _ => HS.out trivial⟩, HG.out⟩
theorem rRCount (B : Nat → Prop) (p top : Nat) (l rest : List UInt8) (er : Int) (w : World) (h : RdSt B p w l rest er) (hl : l.length ≤ 65536) :
  Calls Tryz.prog 129 #[.pointer (some ⟨p, 0, none⟩), .int .i64 top] w fun e w' => e = .returned (.int .i64 (rdCount top rest er).1) ∧ RdSt B p w' l (rdCount top rest er).2.1 (rdCount top rest er).2.2 ∧ Chg (fun x => x = p) w w' := by
 have hInt := Lh (rRInt B p l rest er w h hl)
 unfold rdInt at hInt
 unfold rdCount
 by_cases he : er = 0
 ·simp only [if_pos he] at hInt ⊢
  by_cases h8 : 8 ≤ rest.length
  ·simp only [if_pos h8] at hInt ⊢
   by_cases hv : 0 ≤ i64 (num (rest.take 8))
   ·by_cases ht : i64 (num (rest.take 8)) ≤ (top : Int)
    ·by_cases hq : i64 (num (rest.take 8)) ≤ ((rest.drop 8).length : Int)
     ·rw [if_pos ⟨hv, by omega⟩]
      exact rCount_in B p top l _ _ 0 rfl hv ht hq w hl hInt
     ·rw [if_neg (fun e => hq (by have := e.2; omega))]
      exact rCount_long B p top l _ _ 0 rfl hv ht (by omega) w hl hInt
    ·rw [if_neg (fun e => ht (by have := e.2; omega))]
     exact rCount_top B p top l _ _ 0 rfl hv (by omega) w hl hInt
   ·rw [if_neg (fun e => hv e.1)]
    exact rCount_neg B p top l _ _ 0 rfl (by omega) w hl hInt
  ·simp only [if_neg h8] at hInt ⊢
   exact rCount_er B p top l [] 0 50 (by decide) w hl hInt
 ·simp only [if_neg he] at hInt ⊢
  exact rCount_er B p top l rest 0 er he w hl hInt
theorem rWBytes (A : Option Addr) (l : List UInt8) (c : Nat) (w : World) (h : Rd w A l) (hl : l.length ≤ 65536) :
  Calls Tryz.prog 121 #[.slice A l.length c] w (RetB w (wBy l)) := by
 have HP := Lh (fun W => rPut l.length 4 W (by omega) (by omega))
 have HC := Lh (fun A1 (l1 : List UInt8) c1 W (h1 : Rd W A1 l1) (h2 : Rd W A l) (h4 : l1.length = 4) => rCat A1 l1 c1 A l c W h1 h2 (by omega))
 have HR := Lh h
 have hcv : IntKind.u64.wrap (l.length : Int) = (l.length : Int) := by show (l.length : Int) % 18446744073709551616 = _; omega
 unfold wBy
 have HB := Lh (be_length l.length 4)
 obtain ⟨m, hm⟩ : ∃ m, be l.length 4 = m := ⟨_, rfl⟩
 rw [hm] at HP HB ⊢
 clear h hm
 go_enter Tryz.func121, Tryz.ntmps121
 go_wp2_with fail
 refine (HP.out _).mono ?_
 rintro e u ⟨A2, c2, rfl, h1, h2, h3, h4⟩
 have HO := Lh h3
 have HG := Lh h4
 rw [HB.out] at h1 ⊢
 clear h1 h2 h3 h4
 go_wp2_with fail
 have hC := HC.out A2 m c2 u HO.out.rd (HR.out.non HG.out) HB.out
 rw [HB.out] at hC
 refine hC.mono ?_
 rintro e u2 ⟨A3, c3, rfl, h1, h2, h3, h4⟩
 have HF : Hid (RetB w (m ++ l) (.returned (.slice A3 (m.length + l.length) c3)) u2) := Lh ⟨A3, c3, by rw [List.length_append], h1, h2, h3.mono HG.out.size, HG.out.then_non h4⟩
 clear h1 h2 h3 h4 hC
 go_wp2_with fail
 go_ret
 exact HF.out
end
section
open Go.RowKit
structure OwnN (B : Nat) (N : Nat → Prop) (w : World) (v : Value) (l : List UInt8) : Prop where
 own : OwnB B w v l
 off : ∀ g, v.ownBlock = some g → ¬ N g
theorem OwnN.nil (B : Nat) (N : Nat → Prop) (w : World) : OwnN B N w (.slice none 0 0) [] := ⟨OwnB.nil _ _, fun g h => by simp [Value.ownBlock] at h⟩
theorem OwnN.non {B : Nat} {N : Nat → Prop} {w w' : World} {v : Value} {l : List UInt8} (h : OwnN B N w v l) (hg : Chg Non w w') : OwnN B N w' v l := ⟨h.own.non hg, h.off⟩
theorem OwnN.less {B : Nat} {N N' : Nat → Prop} {w : World} {v : Value} {l : List UInt8} (h : OwnN B N w v l) (hn : ∀ k, N' k → N k) : OwnN B N' w v l := ⟨h.own, fun g e n => h.off g e (hn g n)⟩
theorem OwnB.lt {B : Nat} {w : World} {v : Value} {l : List UInt8} (h : OwnB B w v l) {g : Nat} (hg : v.ownBlock = some g) : g < w.heap.size := by
 rcases h.2 with ⟨rfl, _⟩ | ⟨g2, cap2, cur, rfl, hB2, hb, _⟩
 ·simp [Value.ownBlock] at hg
 ·obtain rfl : g2 = g := by simpa [Value.ownBlock] using hg
  exact (Array.getElem?_eq_some_iff.1 hb).1
theorem OwnN.more {B : Nat} {N N' : Nat → Prop} {w : World} {v : Value} {l : List UInt8} (h : OwnN B N w v l) (hn : ∀ k, N' k → N k ∨ w.heap.size ≤ k) : OwnN B N' w v l :=
 ⟨h.own, fun g e n => (hn g n).elim (h.off g e) (fun hs => absurd (h.own.lt e) (by omega))⟩
theorem wpList_bytesN {ops : Array Oper} {rest : List Oper} {o : Oper} {a : Act} {w : World} {Q : Exit → Act → World → Prop} (hgd : o.guard = none) (s x : Operand)
  (ho : o.op = .call { callee := .builtin .append, args := #[s, x], argTypes := #[29, 29] })
  (B : Nat) (N : Nat → Prop) (v : Value) (l : List UInt8) (hs : a.eval s = v) (hown : OwnN B N w v l) (A : Option Addr) (m : List UInt8) (c : Nat) (hx : a.eval x = .slice A m.length c) (hm : Rd w A m) (h0 : 0 < m.length)
  (hl : l.length ≤ 1000000) (hl2 : m.length ≤ 1000000) (hB : B ≤ w.heap.size) (hN : ∀ k, N k → k < w.heap.size)
  (h : ∀ v2 w2, OwnN B N w2 v2 (l ++ m) → Chg (fun k => ¬ N k) w w2 → wpList Tryz.prog ops Q rest (a.put o.dst v2) w2) : wpList Tryz.prog ops Q (o :: rest) a w := by
 obtain ⟨i0, hi0, hz0, hs0, hb0⟩ := info_parts info_u8
 obtain ⟨b, off, rfl, _, hcell⟩ := hm.at_ h0
 refine wpList_append_lies w hgd s x 29 ho B 5 i0 _ 1 1 Tryz.underlying29 hi0 hz0 hs0 hb0 rfl (by omega) v l.length (l.map bv) hs hown.own ⟨b, off, none⟩ m.length c (m.map bv) hx (by simp) (news_of hcell) (bv_one m) h0 (by unfold maxLen; omega) (by omega) hB _ rfl ?_
 intro g cap w2 h2 hgrow hat hlt
 refine h _ _ ⟨?_, ?_⟩ ?_
 ·unfold OwnB
  rw [List.length_append, List.map_append]
  exact h2
 ·intro g' hg' n
  obtain rfl : g = g' := by simpa [Value.ownBlock] using hg'
  rcases hat with e | e
  ·exact hown.off g e n
  ·have := hN g n; omega
 ·exact (Chg.refl (fun k => ¬ N k) w).grown hgrow fun g' hg' => .inl (hown.off g' hg')
theorem rInts0 (B : Nat) (N : Nat → Prop) (v : Value) (l : List UInt8) (b : Nat) (xs : List Int) (w : World) (hown : OwnN B N w v l) (hb : ∀ (i : Nat) (x : Int), xs[i]? = some x → w.cell? ⟨b, i, none⟩ = some (.int .i64 x)) (hNb : N b) (hN : ∀ k, N k → k < w.heap.size) (hB : B ≤ w.heap.size) (hx : xs.length ≤ 10) (hl : l.length ≤ 100000) :
  Calls Tryz.prog 119 #[v, .slice (some ⟨b, 0, none⟩) xs.length xs.length] w fun e w' => ∃ v', e = .returned v' ∧ OwnN B N w' v' (l ++ xs.flatMap wInt) ∧ Chg (fun k => ¬ N k) w w' := by
 have HB := Lh hb
 have HNb := Lh hNb
 have HN := Lh hN
 have HO0 := Lh hown
 have HI := Lh (fun n W => rInt n W)
 clear hb hNb hN hown
 go_enter Tryz.func119, Tryz.ntmps119
 go_wp2_with fail
 go_loopw [0, 5] (fun v i wr => ∃ k : Nat, k ≤ xs.length ∧ i = .int .i64 k ∧ Hid (OwnN B N wr v (l ++ (xs.take k).flatMap wInt)) ∧ Hid (Chg (fun k => ¬ N k) w wr)) (fun _ i _ => xs.length - (intOf i).toNat)
 case atStart => exact ⟨0, by omega, rfl, Lh (by rw [List.take_zero, List.flatMap_nil, List.append_nil]; exact HO0.out), Lh (Chg.refl _ _)⟩
 case round =>
  obtain ⟨k, hk, rfl, HO, HC⟩ := hrel
  by_cases hlt : k < xs.length
  ·obtain ⟨x, hx1⟩ : ∃ x, xs[k]? = some x := ⟨_, List.getElem?_eq_getElem hlt⟩
   have hk1 : wr.cell? ⟨b, k, none⟩ = some (.int .i64 x) := HC.out.cell_some (HB.out k x hx1) (fun e => e HNb.out)
   have hlt' : decide ((k : Int) < (xs.length : Int)) = true := by simpa using hlt
   have HX := Lh hx1
   have hlen : ((xs.take k).flatMap wInt).length ≤ 80 := by
    have : ∀ r : List Int, (r.flatMap wInt).length = 8 * r.length := fun r => by
     induction r with
     | nil => rfl
     | cons y r ih => rw [List.flatMap_cons, List.length_append, ih, List.length_cons, show (wInt y).length = 8 from be_length _ _]; omega
    rw [this, List.length_take]
    omega
   have HLn := Lh hlen
   have hw8 : (wInt x).length = 8 := be_length _ _
   have HW8 := Lh hw8
   clear hx1 hlen
   go_wp2_with fail
   have hI := HI.out x wr
   rw [show be (u64 x) 8 = wInt x from rfl] at hI
   refine hI.mono ?_
   rintro e u ⟨A2, c2, rfl, _, _, h3, h4⟩
   rw [HW8.out]
   have HO2 := Lh (HO.out.non h4)
   have HR := Lh h3.rd
   have HC2 := Lh (HC.out.then_non h4)
   clear h3 h4 hI
   go_wp2_with (refine sel (some 18) (.call { callee := .builtin .append, args := #[.tmp 12, .tmp 17], argTypes := #[29, 29] }) ?_; refine Hole1.out ?_)
   refine ⟨?_⟩
   refine wpList_bytesN rfl (.tmp 12) (.tmp 17) rfl B N _ _ rfl HO2.out A2 (wInt x) c2 (by rw [HW8.out]; rfl) HR.out (by rw [HW8.out]; omega) (by rw [List.length_append]; have := HLn.out; omega) (by rw [HW8.out]; omega) (by have := HC2.out.size; omega) (fun j hj => by have := HC2.out.size; have := HN.out j hj; omega) ?_
   intro v2 w2 ho2 hg2
   have HO3 := Lh ho2
   have HC3 := Lh (HC2.out.trans hg2 (fun x e => e) (fun x _ e => e))
   clear ho2 hg2
   go_wp2_with fail
   case roundEnd =>
    refine ⟨⟨k + 1, by omega, by simp, Lh ?_, HC3⟩, by simp [intOf]; omega⟩
    have : xs.take (k + 1) = xs.take k ++ [x] := by rw [List.take_add_one, HX.out]; rfl
    rw [this, List.flatMap_append, show [x].flatMap wInt = wInt x by simp, ← List.append_assoc]
    exact HO3.out
  ·obtain rfl : k = xs.length := by omega
   have hlt' : decide ((xs.length : Int) < (xs.length : Int)) = false := by simp
   have HO1 : Hid (OwnN B N wr u0 (l ++ xs.flatMap wInt)) := Lh (by have := HO.out; rwa [List.take_length] at this)
   go_wp2_with fail
   go_ret
   exact ⟨_, rfl, HO1.out, HC.out⟩
theorem rInts (B : Nat) (N : Nat → Prop) (v : Value) (l : List UInt8) (xs : List Int) (n : Nat) (w : World) (hown : OwnN B N w v l) (hN : ∀ k, N k → k < w.heap.size) (hB : B ≤ w.heap.size) (hn : xs.length = n) (hx : n ≤ 10) (hl : l.length ≤ 100000) (cs : Array Value) (t : TypeId) (hcs : cs = (xs.map (Value.int .i64)).toArray) :
  Calls Tryz.prog 119 #[v, .slice (some ⟨w.heap.size, 0, none⟩) n n] (w.alloc (.cells cs t)) fun e w' => ∃ v', e = .returned v' ∧ OwnN B N w' v' (l ++ xs.flatMap wInt) ∧ Chg (fun k => ¬ N k) w w' := by
 subst hn
 have hg : Chg Non w (w.alloc (.cells cs t)) := (Chg.refl Non w).alloc _
 refine (rInts0 B (fun k => N k ∨ k = w.heap.size) v l w.heap.size xs (w.alloc (.cells cs t)) ((hown.more (fun k h => h.imp id (fun e => by omega))).non hg) (fun i x h => ?_) (.inr rfl) (fun k h => ?_) (by have := hg.size; omega) hx hl).mono ?_
 ·rw [cell_of_row _ _ _ _ _ _ (heap_alloc_new _ _), hcs]
  simp [h]
 ·have := hg.size
  rcases h with h | h
  ·have := hN k h; omega
  ·have : (w.alloc (.cells cs t)).heap.size = w.heap.size + 1 := by simp
   omega
 ·rintro e w' ⟨v', rfl, h1, h2⟩
  exact ⟨v', rfl, h1.less (fun k h => .inl h), hg.trans (h2.mono (fun k h => fun n => h (.inl n))) (fun k e => absurd e (fun h => h)) (fun k _ e => e)⟩
end
end Go.Proofs.YtkgnlobabknkcaaGreat
