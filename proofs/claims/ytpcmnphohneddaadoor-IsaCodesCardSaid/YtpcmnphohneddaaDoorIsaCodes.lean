/- Walk of citadellaw19.IsaCodes. -/
import Derived.Test.YtpcmnphohneddaaDoorRiI
import Derived.Test.YtpcmnphohneddaaDoorIsaLines
namespace Go.Proofs.YtpcmnphohneddaaDoor
open Go.RowKit
set_option linter.unusedVariables false

def codeE (ls : List (List UInt8)) : Int := match codeC ls with | some _ => 0 | none => 190
def codeL (ls : List (List UInt8)) : List UInt8 := match codeC ls with | some l => l | none => []
theorem ret_c {w w' : World} {ls : List (List UInt8)} {e : Ending} (h : RetC w ls e w') : ∃ A c, e = .returned (.tuple #[.slice A (codeL ls).length c, .int .i64 (codeE ls)]) ∧ Rd w' A (codeL ls) ∧ Chg Non w w' := by
  obtain ⟨hg, h⟩ := h
  cases hc : codeC ls with
  | some l =>
    rw [hc] at h
    obtain ⟨A, c, he, hr, _, _⟩ := h
    have e1 : codeL ls = l := by unfold codeL; rw [hc]
    have e2 : codeE ls = 0 := by unfold codeE; rw [hc]
    rw [e1, e2]
    exact ⟨A, c, he, hr, hg⟩
  | none =>
    rw [hc] at h
    have e1 : codeL ls = [] := by unfold codeL; rw [hc]
    have e2 : codeE ls = 190 := by unfold codeE; rw [hc]
    rw [e1, e2]
    exact ⟨none, 0, h, fun i x hx => by simp at hx, hg⟩
set_option maxRecDepth 100000 in
set_option maxHeartbeats 4000000 in
theorem IsaCodes_ok (A : Option Addr) (c : Nat) (ls : List (List UInt8)) (w : World) (hE : Env w) (hr : RdS w A ls) :
    Calls Tryd.prog 5 #[.slice A ls.length c] w fun e w' => e = .returned (.bool true) ∧ Chg Non w w' := by
  have HE := Lib.hid hE
  have HR := Lib.hid hr
  clear hE hr
  by_cases h60 : 60 < ls.length
  · have hb : decide ((ls.length : Int) > 60) = true := by simp; omega
    go_enter Tryd.func5, Tryd.ntmps5
    go_wp2_with fail
    go_ret
    exact ⟨rfl, Chg.refl _ _⟩
  · have hb : decide ((ls.length : Int) > 60) = false := by simp; omega
    go_enter Tryd.func5, Tryd.ntmps5
    go_wp2_with fail
    go_loopw [3] (fun i wr => ∃ k : Nat, k ≤ ls.length ∧ i = .int .i64 k ∧ w = wr ∧ ∀ l ∈ ls.take k, l.length ≤ 100) (fun i _ => ls.length - (intOf i).toNat)
    case atStart => exact ⟨0, Nat.zero_le _, rfl, rfl, fun l hl => by simp at hl⟩
    case round =>
      obtain ⟨k, hk, rfl, rfl, hall⟩ := hrel
      have HAll := Lib.hid hall
      clear hall
      by_cases hlt : k < ls.length
      · have hlti : decide ((k : Int) < (ls.length : Int)) = true := by simp; omega
        obtain ⟨l, hlk⟩ : ∃ l, ls[k]? = some l := ⟨_, List.getElem?_eq_getElem hlt⟩
        have HL := Lib.hid hlk
        obtain ⟨b, o, rfl, hc⟩ := HR.out k l hlk
        have hcell : w.cell? ⟨b, o + k, none⟩ = some (.string ⟨l.toArray⟩) := hc
        clear hlk hc
        by_cases h100 : 100 < l.length
        · have hl100 : decide ((l.length : Int) > 100) = true := by simp; omega
          go_wp2_with fail
          go_ret
          exact ⟨rfl, Chg.refl _ _⟩
        · have hl100 : decide ((l.length : Int) > 100) = false := by simp; omega
          go_wp2_with fail
          go_roundw
          case rel =>
            refine ⟨k + 1, by omega, by go_num, trivial, ?_⟩
            rw [List.take_add_one, HL.out, Option.toList_some]
            intro y hy
            rw [List.mem_append, List.mem_singleton] at hy
            rcases hy with hy | rfl
            · exact HAll.out y hy
            · omega
          case measure => simp [intOf]; omega
      · have hkl : k = ls.length := by omega
        have hlti : decide ((k : Int) < (ls.length : Int)) = false := by simp; omega
        have ht : ls.take k = ls := List.take_of_length_le (by omega)
        rw [ht] at HAll
        have HB : Hid (∀ l ∈ ls, l.length < 1000000) := Lib.hid (fun l hl => by have := HAll.out l hl; omega)
        clear ht HAll
        go_wp2_with fail
        refine (Code_ok A c ls w HE.out HR.out (by omega) HB.out).mono ?_
        intro e w1 hret
        obtain ⟨A1, c1, rfl, hr1, hg1⟩ := ret_c hret
        have HG1 := Lib.hid hg1
        have HR1 := Lib.hid hr1
        clear hg1 hr1 hret
        go_wp2_with fail
        refine (rCode_ok A c ls w1 (HR.out.non HG1.out) (by omega) HB.out).mono ?_
        intro e w2 hret
        obtain ⟨A2, c2, rfl, hr2, hg2⟩ := ret_c hret
        have HS1 := Lib.hid (str_of A1 (codeL ls) c1 w2 (HR1.out.non hg2))
        have HS2 := Lib.hid (str_of A2 (codeL ls) c2 w2 hr2)
        have HG2 := Lib.hid (HG1.out.then_non hg2)
        clear hg2 hr2 hret
        generalize codeE ls = E at *
        generalize codeL ls = L at *
        go_wp2_with fail
        rw [HS1.out]
        go_wp2_with fail
        rw [HS2.out]
        go_wp2_with fail
        refine (iawake_ok _ (HE.out.non HG2.out)).mono ?_
        rintro e w3 ⟨rfl, hg3⟩
        have HG3 := Lib.hid (HG2.out.then_non hg3)
        clear hg3
        go_wp2_with fail
        go_ret
        exact ⟨rfl, HG3.out⟩
end Go.Proofs.YtpcmnphohneddaaDoor
