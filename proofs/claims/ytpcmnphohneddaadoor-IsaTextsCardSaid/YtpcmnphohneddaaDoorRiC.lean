/- The document's answer of layer 19: Number; two strings behind one another. -/
import Derived.Test.YtpcmnphohneddaaDoorRiB
namespace Go.Proofs.YtpcmnphohneddaaDoor
open Go.RowKit
set_option linter.unusedVariables false

set_option maxRecDepth 100000 in
set_option maxHeartbeats 1000000 in
theorem rNum_one (n : Nat) (w : World) (h : n < 10) :
    Calls Tryd.prog 29 #[.int .i64 n] w fun e w' => e = .returned (mkStr (Lib.decDigits n)) ∧ Chg Non w w' := by
  have h0 : (n : Int) < 10 := by omega
  rw [Lib.decDigits_one h]
  have hbv : bv (UInt8.ofNat (48 + n)) = .int .u8 (48 + (n : Int)) := by
    unfold bv
    congr 1
    rw [UInt8.toNat_ofNat']
    omega
  have hrd : Rd (w.alloc (.cells #[.int .u8 (48 + (n : Int))] 5)) (some ⟨w.heap.size, 0, none⟩) [UInt8.ofNat (48 + n)] := by
    rw [← hbv]
    exact (own_new _ _ _ _ rfl).rd
  have hs : (convert 47 9 (.slice (some ⟨w.heap.size, 0, none⟩) 1 1)).run Tryd.prog (w.alloc (.cells #[.int .u8 (48 + (n : Int))] 5)) = .ok (.string ⟨#[UInt8.ofNat (48 + n)]⟩) (w.alloc (.cells #[.int .u8 (48 + (n : Int))] 5)) := str_of (some ⟨w.heap.size, 0, none⟩) [UInt8.ofNat (48 + n)] 1 _ hrd
  have HS := Lib.hid hs
  clear hs hrd hbv
  go_enter Tryd.func29, Tryd.ntmps29
  go_wp2_with fail
  rw [HS.out]
  go_wp2_with fail
  go_ret
  exact ⟨by simp [mkStr], (Chg.refl Non w).alloc _⟩
theorem str_cat (x y : List UInt8) (w : World) (h : x.length + y.length ≤ 1000000) : (binOp .add 9 (mkStr x) (mkStr y)).run Tryd.prog w = .ok (mkStr (x ++ y)) w := by
  unfold mkStr
  rw [binOp_string_add]
  exact run_string_add_lists w x y (by omega) (by omega)
set_option maxRecDepth 100000 in
set_option maxHeartbeats 1000000 in
theorem rNum_more (n : Nat) (w : World) (h : 10 ≤ n) (hn : n < 1000000)
    (H1 : ∀ w, Calls Tryd.prog 29 #[.int .i64 ((n : Int) / 10)] w fun e w' => e = .returned (mkStr (Lib.decDigits (n / 10))) ∧ Chg Non w w')
    (H2 : ∀ w, Calls Tryd.prog 29 #[.int .i64 ((n : Int) % 10)] w fun e w' => e = .returned (mkStr (Lib.decDigits (n % 10))) ∧ Chg Non w w') :
    Calls Tryd.prog 29 #[.int .i64 n] w fun e w' => e = .returned (mkStr (Lib.decDigits n)) ∧ Chg Non w w' := by
  have h0 : ¬ (n : Int) < 10 := by omega
  have H1 := Lib.hid H1
  have H2 := Lib.hid H2
  have HD : Hid (Lib.decDigits n = Lib.decDigits (n / 10) ++ Lib.decDigits (n % 10)) := Lib.hid (by
    rw [Lib.decDigits_one (i := n % 10) (by omega)]
    conv => lhs; rw [Lib.decDigits, dif_neg (by omega)])
  have HL : (Lib.decDigits (n / 10)).length + (Lib.decDigits (n % 10)).length ≤ 100 := by
    rw [Lib.decDigits_length, Lib.decDigits_length]
    have := Lib.nDigits_le20 (n / 10) (by omega)
    have := Lib.nDigits_le20 (n % 10) (by omega)
    omega
  go_enter Tryd.func29, Tryd.ntmps29
  go_wp2_with fail
  refine (H1.out _).mono ?_
  rintro e w1 ⟨rfl, hg1⟩
  go_wp2_with fail
  refine (H2.out _).mono ?_
  rintro e w2 ⟨rfl, hg2⟩
  go_wp2_with fail
  rw [str_cat _ _ _ (by omega)]
  go_wp2_with fail
  rw [← HD.out]
  go_ret
  exact ⟨rfl, hg1.then_non hg2⟩
/-- a number's digits -/
theorem rNumber_ok (n : Nat) (hn : n < 1000000) : ∀ (w : World),
    Calls Tryd.prog 29 #[.int .i64 n] w fun e w' => e = .returned (mkStr (Lib.decDigits n)) ∧ Chg Non w w' := by
  induction n using Nat.strongRecOn with
  | _ n ih =>
    intro w
    rcases Nat.lt_or_ge n 10 with h | h
    · exact rNum_one n w h
    · exact rNum_more n w h hn (fun w => ih (n / 10) (by omega) (by omega) w) (fun w => ih (n % 10) (by omega) (by omega) w)
end Go.Proofs.YtpcmnphohneddaaDoor
