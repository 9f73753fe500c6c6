/- Walks of crc.Put, crc.Check. -/
import Derived.Test.YthhbdejagglgbaaGreatCrcW
namespace Go.Proofs.YthhbdejagglgbaaGreat
open Go.RowKit
set_option linter.unusedVariables false

def crcPut (l : List UInt8) : List UInt8 := l ++ be (crcSum l) 4

set_option maxRecDepth 100000 in
set_option maxHeartbeats 2000000 in
theorem crcPut_any (A : Option Addr) (l : List UInt8) (cap : Nat) (w : World) (hr : Rd w A l) (hl : l.length ≤ 1000000) :
    Calls Tryz.prog 98 #[.slice A l.length cap] w (RetB w (crcPut l)) := by
  go_enter Tryz.func98, Tryz.ntmps98
  go_wp2_with fail
  refine (Sum_any A l cap w hr (by omega)).mono ?_
  rintro e w1 ⟨rfl, hg1⟩
  go_wp2_with fail
  refine (Put32 _ _ (crcSum_lt l)).mono ?_
  rintro e w2 ⟨A2, c2, rfl, hc2, hm2, ho2, hg2⟩
  go_wp2_with fail
  have h1 := (hr.non hg1).non hg2
  refine (Cat2 A A2 l (be (crcSum l) 4) cap c2 _ w2 _ rfl h1 ho2.rd (by rw [be_length]; omega) (crcPut l) rfl).mono ?_
  rintro e w3 ⟨A3, c3, rfl, hr3⟩
  go_wp2
  go_ret
  exact RetB.from ⟨A3, c3, rfl, hr3⟩ (hg1.then_non hg2)

def crcOk (b : List UInt8) : Bool := decide (4 ≤ b.length ∧ crcPut (b.take (b.length - 4)) = b)

set_option maxRecDepth 100000 in
set_option maxHeartbeats 2000000 in
/-- Check, where the bytes are at least 4 -/
theorem Check_any (A : Option Addr) (l : List UInt8) (cap : Nat) (w : World) (hr : Rd w A l) (h4 : 4 ≤ l.length) (hl : l.length ≤ 1000000) (hcap : l.length ≤ cap) (hm : cap ≤ maxLen) :
    Calls Tryz.prog 121 #[.slice A l.length cap] w fun e w' => (∃ v, e = .returned (.tuple #[v, .bool (crcOk l)])) ∧ Chg Non w w' := by
  unfold maxLen at hm
  have hlt : (l.take (l.length - 4)).length = l.length - 4 := by rw [List.length_take]; omega
  have hp := crcPut_any A (l.take (l.length - 4)) cap
  have hcut := fun W h => Cat1 A (l.take (l.length - 4)) cap 29 W _ rfl h (by omega)
  rw [hlt] at hp hcut
  have HP := Lib.hid hp
  have HK := Lib.hid hcut
  clear hp hcut
  have hok : crcOk l = decide (crcPut (l.take (l.length - 4)) = l) := by
    unfold crcOk
    simp [h4]
  have HOK := Lib.hid hok
  clear hok hlt
  by_cases he : crcPut (l.take (l.length - 4)) = l
  · have hd : decide (crcPut (l.take (l.length - 4)) = l) = true := by simpa using he
    have HE := Lib.hid he
    clear he
    go_enter Tryz.func121, Tryz.ntmps121
    go_wp2_with fail
    refine (HP.out w (hr.take (l.length - 4)) (by omega)).mono ?_
    rintro e w2 ⟨A2, c2, rfl, hc2, hm2, ho2, hg2⟩
    go_wp2_with fail
    refine (Same_any A2 A (crcPut (l.take (l.length - 4))) l c2 cap w2 ho2.rd (hr.non hg2)).mono ?_
    rintro e w3 ⟨rfl, rfl⟩
    go_wp2_with fail
    refine (HK.out w2 ((hr.take (l.length - 4)).non hg2)).mono ?_
    rintro e w4 ⟨A4, c4, rfl, hc4, hm4, ho4, hg4⟩
    go_wp2
    go_ret2
    exact ⟨⟨_, by rw [HOK.out, hd]; rfl⟩, hg2.then_non hg4⟩
  · have hd : decide (crcPut (l.take (l.length - 4)) = l) = false := by simpa using he
    have HE := Lib.hid he
    clear he
    go_enter Tryz.func121, Tryz.ntmps121
    go_wp2_with fail
    refine (HP.out w (hr.take (l.length - 4)) (by omega)).mono ?_
    rintro e w2 ⟨A2, c2, rfl, hc2, hm2, ho2, hg2⟩
    go_wp2_with fail
    refine (Same_any A2 A (crcPut (l.take (l.length - 4))) l c2 cap w2 ho2.rd (hr.non hg2)).mono ?_
    rintro e w3 ⟨rfl, rfl⟩
    go_wp2
    go_ret2
    exact ⟨⟨_, by rw [HOK.out, hd]; rfl⟩, hg2⟩
end Go.Proofs.YthhbdejagglgbaaGreat
