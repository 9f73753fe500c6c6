/- citadellaw25.rows. -/
import Derived.Test.YtkgnlobabknkcaaGreatMgCheckBaseA
import Derived.Test.YtkgnlobabknkcaaGreatMgCheckBaseB
import Derived.Test.YtkgnlobabknkcaaGreatMgCheckBaseC
import Derived.Test.YtkgnlobabknkcaaGreatMgCheckBaseD
import Derived.Test.YtkgnlobabknkcaaGreatMgCheckBaseE
import Derived.Test.YtkgnlobabknkcaaGreatMgCheckBaseF
import Derived.Test.YtkgnlobabknkcaaGreatMgCheckBaseG
import Derived.Test.YtkgnlobabknkcaaGreatMgCheckBaseH
import Derived.Test.YtkgnlobabknkcaaGreatMgCheckBaseI
import Derived.Test.YtkgnlobabknkcaaGreatMgCheckBaseJ
import Derived.Test.YtkgnlobabknkcaaGreatMgCheckBaseK
import Derived.Test.YtkgnlobabknkcaaGreatMgCheckBaseL
import Derived.Test.YtkgnlobabknkcaaGreatMgCheckBaseM
import Derived.Test.YtkgnlobabknkcaaGreatMgCheckBaseN
import Derived.Test.YtkgnlobabknkcaaGreatMgCheckBaseO
import Derived.Test.YtkgnlobabknkcaaGreatMgCheckBaseP
import Derived.Test.YtkgnlobabknkcaaGreatMgCheckBaseQ
import Derived.Test.YtkgnlobabknkcaaGreatMgCheckBaseR
import Derived.Test.YtkgnlobabknkcaaGreatMgCheckBaseS
import Derived.Test.YtkgnlobabknkcaaGreatMgCheckBaseShelf
import Derived.Test.YtkgnlobabknkcaaGreatMgCheckBaseT
import Derived.Test.YtkgnlobabknkcaaGreatMgCheckBaseU
import Derived.Test.YtkgnlobabknkcaaGreatMgCheckOneB
namespace Go.Proofs.YtkgnlobabknkcaaGreat
set_option linter.unusedVariables false
set_option linter.unusedSimpArgs false
set_option maxHeartbeats 8000000
open Go.RowKit Go.Shelf
attribute [local go_sem] Oper.semAt_some

/-- a state as three cells of a row -/
def stV (I : Nat → Prop) : World → Sta → List Value → Prop := fun w a vs => ∃ vb vd, vs = [.int .i64 a.frames, vb, vd] ∧ StaV I w a vb vd
theorem stV_non {I : Nat → Prop} {w w' : World} {a : Sta} {vs : List Value} (h : stV I w a vs) (hg : Chg Non w w') : stV I w' a vs := by
 obtain ⟨vb, vd, e, h⟩ := h
 exact ⟨vb, vd, e, h.non hg⟩
theorem tagI_A (i : Nat) (h : i < 4) : tagA (tagI i) = #[.int .u8 (i : Int), .int .u8 0, .int .u8 0, .int .u8 0, .int .u8 0, .int .u8 0, .int .u8 0, .int .u8 0, .int .u8 0, .int .u8 0, .int .u8 0, .int .u8 0, .int .u8 0, .int .u8 0, .int .u8 0, .int .u8 0, .int .u8 0, .int .u8 0, .int .u8 0, .int .u8 0, .int .u8 0, .int .u8 0, .int .u8 0, .int .u8 0, .int .u8 0, .int .u8 0, .int .u8 0, .int .u8 0, .int .u8 0, .int .u8 0, .int .u8 0, .int .u8 0] := by
 have : i = 0 ∨ i = 1 ∨ i = 2 ∨ i = 3 := by omega
 rcases this with rfl | rfl | rfl | rfl <;> rfl
theorem u8_small (i : Nat) (h : i < 4) : IntKind.u8.wrap (i : Int) = (i : Int) := by
 have : i = 0 ∨ i = 1 ∨ i = 2 ∨ i = 3 := by omega
 rcases this with rfl | rfl | rfl | rfl <;> decide
set_option maxRecDepth 100000 in
theorem rows_ok (I : Nat → Prop) (w : World) (L : Option Addr) (l : List Sta) (c : Nat) (hr : RdL (stV I) I 3 w L l) (hc : l.length ≤ c) (hm : c ≤ maxLen) (hI : ∀ b, I b → b < w.heap.size) :
  Calls Tryz.prog 25 #[.slice L l.length c] w fun e w' => (e = .returned (.tuple #[.pointer none, .bool false]) ∧ Chg Non w w') ∨
   (∃ pd ps pm D, e = .returned (.tuple #[.pointer (some ⟨pd, 0, none⟩), .bool true]) ∧ IsD w' pd ps pm D ∧ RowsD D l ∧ 1 ≤ l.length ∧ l.length ≤ 4 ∧ (∀ k, DS pd ps pm k → w.heap.size ≤ k) ∧ Chg Non w w') := by
 have HR := Lib.hid (fun W (hg : Chg Non w W) => hr.keep hg (fun _ _ e => e) (fun a vs _ h => stV_non h hg))
 have HNew := Lib.hid (New_ok 323 w (by omega) (by omega))
 have hrn := rowsD_new
 obtain ⟨D0, hD0⟩ : ∃ D, Dk.new 323 = D := ⟨_, rfl⟩
 rw [hD0] at HNew hrn
 have H0 := Lib.hid hrn
 unfold maxLen at hm
 clear hr hrn hD0
 go_enter Tryz.func25, Tryz.ntmps25
 go_wp2_with fail
 refine HNew.out.mono ?_
 rintro e u1 ⟨pd, ps, pm, rfl, hD, hp1, hp2, hp3, hg⟩
 have HD := Lib.hid hD
 have HG := Lib.hid hg
 have HDS : Hid (∀ k, DS pd ps pm k → w.heap.size ≤ k) := Lib.hid (fun k e => by rcases e with e | e | e <;> omega)
 clear hD hg hp1 hp2 hp3 HNew
 by_cases h1 : l.length = 0
 ·have h1d : ((l.length : Int) == 0) = true := by rw [beq_iff_eq]; omega
  go_wp2_with fail
  go_ret2
  exact .inl ⟨rfl, HG.out⟩
 have h1d : ((l.length : Int) == 0) = false := by rw [beq_eq_false_iff_ne]; omega
 by_cases h4 : 4 < l.length
 ·have h4d : decide ((l.length : Int) > 4) = true := by rw [decide_eq_true_eq]; omega
  go_wp2_with fail
  go_ret2
  exact .inl ⟨rfl, HG.out⟩
 have h4d : decide ((l.length : Int) > 4) = false := by rw [decide_eq_false_iff_not]; omega
 go_wp2_with fail
 have HL := Lib.hid (show 1 ≤ l.length ∧ l.length ≤ 4 from ⟨by omega, by omega⟩)
 clear h1d h4d h1 h4
 go_loopw [7, 6] (fun iv sv wr => ∃ (k : Nat) (x : Int), k ≤ l.length ∧ iv = .int .i64 k ∧ sv = .int .i64 x ∧ ∃ D, Hid (IsD wr pd ps pm D) ∧ Hid (RowsD D (l.take k)) ∧ Hid (Chg Non w wr)) (fun iv _ _ => l.length - (intOf iv).toNat)
 case atStart => exact ⟨0, 0, Nat.zero_le _, rfl, rfl, D0, HD, H0, HG⟩
 case round =>
  clear HD HG H0
  obtain ⟨k, x, hk, rfl, rfl, D, HD, HW, HG⟩ := hrel
  by_cases hlt : k < l.length
  ·have hltd : decide ((k : Int) < (l.length : Int)) = true := by simpa using hlt
   obtain ⟨a, ha⟩ : ∃ a, l[k]? = some a := ⟨_, List.getElem?_eq_getElem hlt⟩
   obtain ⟨bl, ol, vs, rfl, _, hl3, hcell, va, vd, rfl, hst⟩ := HR.out wr HG.out k a ha
   have HC := Lib.hid hcell
   have HSt := Lib.hid hst
   have hk4 : k < 4 := by have := HL.out; omega
   go_wp2_with (first
     | (refine sel (some 38) (.load 25 (.tmp 37)) ?_; refine wpList_loadW (some 38) 25 (.tmp 37) bl (ol + k * 3) #[.int .i64 a.frames, va, vd] _ rfl rfl (by kernel_rfl) rfl HC.out Tryz.underlying25 rfl info_st ?_))
   refine (weight_any I a va vd wr HSt.out).mono ?_
   rintro e u2 ⟨y, rfl, hg⟩
   have HD2 := Lib.hid (HD.out.non hg)
   have HG2 := Lib.hid (HG.out.then_non hg)
   have HC2 := Lib.hid (fun j v hj => hg.cell_some (hcell j v hj) (fun e => e))
   have HSt2 := Lib.hid (hst.non hg)
   clear hg hcell hst HC HSt HD HG
   have hsl : (l.take k).length = k := by rw [List.length_take]; omega
   have htk : l.take (k + 1) = l.take k ++ [a] := by rw [List.take_add_one, ha]; rfl
   by_cases hz : 12000 < wrap64 (x + y)
   ·have hzd : decide (12000 < wrap64 (x + y)) = true := by rw [decide_eq_true_eq]; exact hz
    go_wp2_with fail
    go_ret2
    exact .inl ⟨rfl, HG2.out⟩
   have hzd : decide (12000 < wrap64 (x + y)) = false := by rw [decide_eq_false_iff_not]; exact hz
   have HTk := Lib.hid (And.intro hsl htk)
   have HPt := Lib.hid (fun (W : World) (hg : Chg Non u2 W) => kPut_in I pd ps pm D ((k : Int) + 1) (tagI k) a va vd W (HD2.out.non hg) HW.out.c.r.sz (by rw [HW.out.c.r.len]; omega) (HSt2.out.non hg) (fun b hb => Nat.lt_of_lt_of_le (hI b hb) (HG2.out.then_non hg).size) (tagN_len _) ⟨by omega, by omega⟩)
   rw [tagI_A k hk4] at HPt
   clear hsl htk hz ha
   go_wp2_with
    (refine sel (some 53) (.load 25 (.tmp 52)) ?_; refine wpList_loadW (some 53) 25 (.tmp 52) bl (ol + k * 3) #[.int .i64 a.frames, va, vd] _ rfl rfl (by kernel_rfl) rfl HC2.out Tryz.underlying25 rfl info_st ?_)
   refine (HPt.out u2 (Chg.refl _ _)).mono ?_
   rintro e u3 ⟨rfl, hD, hg⟩
   have HG3 := Lib.hid (HG2.out.then_new hg HDS.out)
   cases hm2 : mayS a with
   | false =>
    have hR : kPutR D ((k : Int) + 1) (tagI k) a = (D, 2) := by unfold kPutR; rw [if_pos (.inr hm2)]
    rw [hR]
    clear hR hD hg HPt hm2
    go_wp2_with fail
    go_ret2
    exact .inl ⟨rfl, HG3.out⟩
   | true =>
    have hs := HW.out.snoc (s := a) (by rw [HTk.out.1]; omega) hm2 (stBd_may hm2 HSt2.out.bds)
    rw [HTk.out.1] at hs
    rw [hs.1]
    have HD3 := Lib.hid hD
    have HW3 : Hid (RowsD (kPutR D ((k : Int) + 1) (tagI k) a).1 (l.take (k + 1))) := Lib.hid (by rw [HTk.out.2]; exact hs.2)
    clear hs hD hg HPt hm2 HW HD2 HG2
    go_wp2_with fail
    exact ⟨⟨k + 1, _, by omega, by simp, rfl, _, HD3, HW3, HG3⟩, by simp [intOf]; omega⟩
  ·obtain rfl : k = l.length := by omega
   have hltd : decide ((l.length : Int) < (l.length : Int)) = false := by simp
   have HW2 : Hid (RowsD D l) := Lib.hid (by have := HW.out; rwa [List.take_length] at this)
   go_wp2_with fail
   go_ret2
   exact .inr ⟨pd, ps, pm, D, rfl, HD.out, HW2.out, HL.out.1, HL.out.2, HDS.out, HG.out⟩
end Go.Proofs.YtkgnlobabknkcaaGreat
