/- The document's answer of layer 18 (citadelref18): There, Read, Load32, Write, Word. -/
import Derived.Test.YtpcmnphohneddaaGreatDoorVnL
namespace Go.Proofs.YtpcmnphohneddaaGreatDoor
open Go.RowKit
set_option linter.unusedVariables false

set_option maxRecDepth 100000 in
set_option maxHeartbeats 1000000 in
theorem rThere_yes (A : Option Addr) (l : List UInt8) (c a n : Nat) (w : World) (h0 : n ≤ 512) (ht : there l a n = true) :
    Calls Tryz.prog 52 #[.slice A l.length c, .int .i64 a, .int .i64 n] w fun e w' => e = .returned (.int .i64 0) ∧ w = w' := by
  obtain ⟨h1, h2⟩ := there_yes ht
  have b1 : decide ((l.length : Int) > 512) = false := by simp; omega
  have b2 : decide ((a : Int) < 0) = false := by rw [decide_eq_false_iff_not]; omega
  have b3 : decide ((n : Int) < 0) = false := by rw [decide_eq_false_iff_not]; omega
  have b4 : decide ((a : Int) > 512) = false := by simp; omega
  have b5 : decide ((n : Int) > 512) = false := by simp; omega
  have b6 : decide ((a : Int) + (n : Int) > (l.length : Int)) = false := by rw [decide_eq_false_iff_not]; omega
  clear ht
  go_enter Tryz.func52, Tryz.ntmps52
  go_wp2_with fail
  go_ret
  exact ⟨rfl, rfl⟩
set_option maxRecDepth 100000 in
set_option maxHeartbeats 1000000 in
theorem rThere_no (A : Option Addr) (l : List UInt8) (c a n : Nat) (w : World) (h0 : n ≤ 512) (ha : (a : Int) ≤ 4294967295 * 3) (ht : there l a n = false) :
    Calls Tryz.prog 52 #[.slice A l.length c, .int .i64 a, .int .i64 n] w fun e w' => ∃ er : Int, (er != 0) = true ∧ (er == 0) = false ∧ e = .returned (.int .i64 er) ∧ w = w' := by
  rcases there_no ht with h | ⟨h1, h2⟩
  · have b1 : decide ((l.length : Int) > 512) = true := by simp; omega
    clear ht
    go_enter Tryz.func52, Tryz.ntmps52
    go_wp2_with fail
    go_ret
    exact ⟨3, rfl, rfl, rfl, rfl⟩
  · have b1 : decide ((l.length : Int) > 512) = false := by simp; omega
    have b2 : decide ((a : Int) < 0) = false := by rw [decide_eq_false_iff_not]; omega
    have b3 : decide ((n : Int) < 0) = false := by rw [decide_eq_false_iff_not]; omega
    have b5 : decide ((n : Int) > 512) = false := by simp; omega
    clear ht
    by_cases hb4 : 512 < a
    · have b4 : decide ((a : Int) > 512) = true := by simp; omega
      go_enter Tryz.func52, Tryz.ntmps52
      go_wp2_with fail
      go_ret
      exact ⟨180, rfl, rfl, rfl, rfl⟩
    · have b4 : decide ((a : Int) > 512) = false := by simp; omega
      have b6 : decide ((a : Int) + (n : Int) > (l.length : Int)) = true := by rw [decide_eq_true_eq]; omega
      go_enter Tryz.func52, Tryz.ntmps52
      go_wp2_with fail
      go_ret
      exact ⟨180, rfl, rfl, rfl, rfl⟩
theorem rd_one (w : World) (x : UInt8) : Rd (w.alloc (.cells #[.int .u8 (x.toNat : Nat)] 5)) (some ⟨w.heap.size, 0, none⟩) [x] := by
  refine Rd.of_at ?_
  intro i hi
  obtain rfl : i = 0 := by simpa using hi
  exact row_cell (heap_alloc_new w _) rfl
theorem cut_zero (l : List UInt8) (a : Nat) : cut l a 0 = [] := by simp [cut]
theorem cut_snoc (l : List UInt8) (a k : Nat) (h : a + k < l.length) : cut l a (k + 1) = cut l a k ++ [l.getD (a + k) 0] := by
  unfold cut
  rw [List.take_add_one, List.getElem?_drop, List.getElem?_eq_getElem h, List.getD_eq_getElem?_getD, List.getElem?_eq_getElem h]
  rfl
set_option maxRecDepth 100000 in
set_option maxHeartbeats 2000000 in
theorem rRead_yes (A : Option Addr) (l : List UInt8) (c a n : Nat) (w : World) (hr : Rd w A l) (hn : 0 < n) (hn4 : n ≤ 4) (ht : there l a n = true) :
    Calls Tryz.prog 24 #[.slice A l.length c, .int .i64 a, .int .i64 n] w fun e w' => ∃ A2 c2, e = .returned (.tuple #[.slice A2 n c2, .int .i64 0]) ∧ n ≤ c2 ∧ c2 ≤ maxLen ∧ Own w.heap.size w' A2 (cut l a n) ∧ Chg Non w w' := by
  obtain ⟨h1, h2⟩ := there_yes ht
  obtain ⟨b, o, rfl, _⟩ := hr.at_ (by omega)
  have HR := Lib.hid hr
  have HT := Lib.hid ht
  have hk := cut_len h2
  have HK := Lib.hid hk
  clear hr ht hk
  go_enter Tryz.func24, Tryz.ntmps24
  go_wp2_with fail
  refine (rThere_yes (some ⟨b, o, none⟩) l c a n w (by omega) HT.out).mono ?_
  rintro e w1 ⟨rfl, rfl⟩
  go_wp2_with fail
  go_loopw [9, 10] (fun v i wr => ∃ k : Nat, k ≤ n ∧ i = .int .i64 k ∧ OwnR w.heap.size wr v (cut l a k) ∧ Chg Non w wr) (fun _ i _ => n - (intOf i).toNat)
  case atStart => exact ⟨0, by omega, rfl, by rw [cut_zero]; exact ⟨rfl, .inl ⟨rfl, rfl⟩⟩, Chg.refl _ _⟩
  case round =>
    obtain ⟨k, hk, rfl, hO, hC⟩ := hrel
    have HO := Lib.hid hO
    have HC := Lib.hid hC
    by_cases hlt : k < n
    · have e1 := u8_cell (HR.out.non hC) (a + k) (by omega)
      have hs := cut_snoc l a k (by omega)
      have hkl := cut_len (l := l) (a := a) (n := k) (by omega)
      obtain ⟨x, hx⟩ : ∃ x, l.getD (a + k) 0 = x := ⟨_, rfl⟩
      rw [hx] at e1 hs
      have HS := Lib.hid hs
      have HKl := Lib.hid hkl
      have hlt' : decide ((k : Int) < (n : Int)) = true := by simpa using hlt
      have hin : (a : Int) + (k : Int) < (l.length : Int) := by omega
      clear hO hC hs hx hkl
      go_wp2_with (first
        | (refine sel (some 31) (.call _) ?_; refine Vm_stop ?_))
      refine HoleV.mk ?_
      refine wpList_appB rfl (.tmp 23) (.tmp 30) rfl w.heap.size u9 (cut l a k) rfl (HO.out.non ((Chg.refl _ _).alloc _)) (some ⟨wr.heap.size, 0, none⟩) 1 [x] rfl (rd_one wr x) (by rw [HKl.out]; omega) (by simp) (by have := HC.out.size; simp; omega) (by rw [HKl.out]; simp; omega) ?_
      intro v2 w2 hO2 hg2 hat
      have HO2 := Lib.hid hO2
      have HG2 := Lib.hid ((HC.out.alloc _).then_new hg2 (fun x e => HO.out.ge e))
      clear hO2 hg2 hat
      go_wp2_with fail
      case roundEnd =>
        exact ⟨⟨k + 1, by omega, by go_num, by rw [HS.out]; exact HO2.out, HG2.out⟩, by simp [intOf]; omega⟩
    · obtain rfl : k = n := by omega
      have hlt' : decide ((k : Int) < (k : Int)) = false := by simp
      obtain ⟨A2, c2, rfl, q1, q2, q3⟩ := hO.own
      rw [HK.out] at q1 ⊢
      have Q3 := Lib.hid q3
      clear hO hC q3
      go_wp2_with fail
      go_ret2
      exact ⟨A2, c2, rfl, q1, q2, Q3.out, HC.out⟩
set_option maxRecDepth 100000 in
set_option maxHeartbeats 1000000 in
theorem rRead_no (A : Option Addr) (l : List UInt8) (c a n : Nat) (w : World) (hn4 : n ≤ 4) (ha : (a : Int) ≤ 4294967295 * 3) (ht : there l a n = false) :
    Calls Tryz.prog 24 #[.slice A l.length c, .int .i64 a, .int .i64 n] w fun e w' => ∃ er : Int, (er != 0) = true ∧ (er == 0) = false ∧ e = .returned (.tuple #[.slice none 0 0, .int .i64 er]) ∧ w = w' := by
  have HT := Lib.hid ht
  clear ht
  go_enter Tryz.func24, Tryz.ntmps24
  go_wp2_with fail
  refine (rThere_no A l c a n w (by omega) ha HT.out).mono ?_
  rintro e w1 ⟨er, h1, h2, rfl, rfl⟩
  go_wp2_with fail
  go_ret2
  exact ⟨er, h1, h2, rfl, rfl⟩
theorem num32_snoc (b : List UInt8) (x : UInt8) : num32 (b ++ [x]) = 256 * num32 b + x.toNat := by simp [num32]
theorem num32_fold (b : List UInt8) : ∀ x : Nat, b.foldl (fun x c => 256 * x + c.toNat) x < (x + 1) * 256 ^ b.length := by
  induction b with
  | nil => intro x; simp
  | cons c b ih =>
    intro x
    have h := ih (256 * x + c.toNat)
    have hc := c.toNat_lt
    rw [List.foldl_cons, List.length_cons, Nat.pow_succ]
    refine Nat.lt_of_lt_of_le h ?_
    rw [show (x + 1) * (256 ^ b.length * 256) = (256 * (x + 1)) * 256 ^ b.length by rw [Nat.mul_comm (256 ^ b.length), ← Nat.mul_assoc, Nat.mul_comm (x + 1)]]
    exact Nat.mul_le_mul_right _ (by omega)
theorem num32_pow (b : List UInt8) : num32 b < 256 ^ b.length := by
  have h := num32_fold b 0
  simpa [num32] using h
set_option maxRecDepth 100000 in
set_option maxHeartbeats 2000000 in
theorem rLoad_yes (A : Option Addr) (l : List UInt8) (c a : Nat) (w : World) (hr : Rd w A l) (ht : there l a 4 = true) :
    Calls Tryz.prog 27 #[.slice A l.length c, .int .i64 a] w fun e w' => e = .returned (.tuple #[.int .u32 (num32 (cut l a 4) : Nat), .int .i64 0]) ∧ Chg Non w w' := by
  obtain ⟨h1, h2⟩ := there_yes ht
  have hk := cut_len h2
  have hrd := rRead_yes A l c a 4 w hr (by omega) (by omega) ht
  obtain ⟨b, hb⟩ : ∃ b, cut l a 4 = b := ⟨_, rfl⟩
  rw [hb] at hk hrd ⊢
  have HK := Lib.hid hk
  have HRd := Lib.hid hrd
  clear hr ht hk hb hrd
  go_enter Tryz.func27, Tryz.ntmps27
  go_wp2_with fail
  refine HRd.out.mono ?_
  rintro e w1 ⟨A2, c2, rfl, q1, q2, q3, q4⟩
  obtain ⟨b3, o3, rfl, _, hc3⟩ := q3.rd.at_ (by rw [HK.out]; omega)
  have Q3 := Lib.hid q3
  have Q4 := Lib.hid q4
  clear q3 q4 hc3
  go_wp2_with fail
  go_loopw [8, 9] (fun x i wr => ∃ k : Nat, k ≤ 4 ∧ i = .int .i64 k ∧ x = .int .u32 (num32 (b.take k) : Nat) ∧ w1 = wr) (fun _ i _ => 4 - (intOf i).toNat)
  case atStart => exact ⟨0, by omega, rfl, rfl, rfl⟩
  case round =>
    obtain ⟨k, hk, rfl, rfl, rfl⟩ := hrel
    by_cases hlt : k < 4
    · have e1 := u8_cell Q3.out.rd k (by rw [HK.out]; omega)
      have hs : num32 (b.take (k + 1)) = 256 * num32 (b.take k) + (b.getD k 0).toNat := by
        rw [← num32_snoc]
        congr 1
        rw [List.take_add_one, List.getElem?_eq_getElem (by rw [HK.out]; omega), List.getD_eq_getElem?_getD, List.getElem?_eq_getElem (by rw [HK.out]; omega)]
        rfl
      have hp := num32_pow (b.take k)
      have hp2 : (256 : Nat) ^ (b.take k).length ≤ 256 ^ 3 := Nat.pow_le_pow_right (by omega) (by rw [List.length_take]; omega)
      obtain ⟨X, hX⟩ : ∃ X, num32 (b.take k) = X := ⟨_, rfl⟩
      obtain ⟨Y, hY⟩ : ∃ Y, num32 (b.take (k + 1)) = Y := ⟨_, rfl⟩
      obtain ⟨x, hx⟩ : ∃ x, b.getD k 0 = x := ⟨_, rfl⟩
      rw [hx] at e1 hs
      rw [hX] at hp hs ⊢
      rw [hY] at hs
      have HY := Lib.hid hY
      have hx8 := x.toNat_lt
      have m1 : X < 16777216 := by omega
      have m2 : 256 * (X : Int) + (x.toNat : Int) = (Y : Int) := by omega
      have hlt' : decide ((k : Int) < 4) = true := by rw [decide_eq_true_eq]; omega
      have hin : (k : Int) < 4 := by omega
      clear hs hX hY hx hp hp2
      go_wp2_with fail
      case roundEnd =>
        exact ⟨⟨k + 1, by omega, by go_num, by rw [HY.out], trivial⟩, by simp [intOf]; omega⟩
    · obtain rfl : k = 4 := by omega
      have ht : b.take 4 = b := List.take_of_length_le (by rw [HK.out]; omega)
      rw [ht]
      clear ht
      go_wp2_with fail
      go_ret2
      exact ⟨rfl, Q4.out⟩
set_option maxRecDepth 100000 in
set_option maxHeartbeats 1000000 in
theorem rLoad_no (A : Option Addr) (l : List UInt8) (c a : Nat) (w : World) (ha : (a : Int) ≤ 4294967295 * 3) (ht : there l a 4 = false) :
    Calls Tryz.prog 27 #[.slice A l.length c, .int .i64 a] w fun e w' => ∃ er : Int, (er != 0) = true ∧ (er == 0) = false ∧ e = .returned (.tuple #[.int .u32 0, .int .i64 er]) ∧ w = w' := by
  have HT := Lib.hid ht
  clear ht
  go_enter Tryz.func27, Tryz.ntmps27
  go_wp2_with fail
  refine (rRead_no A l c a 4 w (by omega) ha HT.out).mono ?_
  rintro e w1 ⟨er, h1, h2, rfl, rfl⟩
  go_wp2_with fail
  refine wp_loop_once ?_
  go_wp2_with fail
  go_ret2
  exact ⟨er, h1, h2, rfl, rfl⟩
theorem put_take_zero (l : List UInt8) (a : Nat) (b : List UInt8) : put l a (b.take 0) = l := by simp [put]
theorem put_take_set (l : List UInt8) (a k : Nat) (b : List UInt8) (hk : k < b.length) (h : a + b.length ≤ l.length) : (put l a (b.take k)).set (a + k) (b.getD k 0) = put l a (b.take (k + 1)) := by
  have e1 : (b.take k).length = k := by rw [List.length_take]; omega
  have e2 : (b.take (k + 1)).length = k + 1 := by rw [List.length_take]; omega
  apply List.ext_getElem?
  intro i
  rw [List.getElem?_set]
  by_cases hi : a + k = i
  · subst hi
    have hl : a + k < (put l a (b.take k)).length := by rw [put_len (by omega)]; omega
    rw [if_pos rfl, if_pos hl, put_in (by omega) (a + k) (by omega) (by omega), show a + k - a = k by omega, List.getElem?_take_of_lt (by omega), List.getElem?_eq_getElem hk, List.getD_eq_getElem?_getD, List.getElem?_eq_getElem hk]
    rfl
  · rw [if_neg hi]
    by_cases h1 : i < a ∨ a + k ≤ i
    · rw [put_get (by omega) i (by omega), put_get (by omega) i (by omega)]
    · rw [put_in (by omega) i (by omega) (by omega), put_in (by omega) i (by omega) (by omega), List.getElem?_take_of_lt (by omega), List.getElem?_take_of_lt (by omega)]
set_option maxRecDepth 100000 in
set_option maxHeartbeats 2000000 in
theorem rWrite_yes (A : Option Addr) (l : List UInt8) (c a : Nat) (B : Option Addr) (y : List UInt8) (cy : Nat) (w : World) (hr : Rd w A l) (hry : Rd w B y) (hn : 0 < y.length) (hn4 : y.length ≤ 4) (ht : there l a y.length = true) :
    Calls Tryz.prog 28 #[.slice A l.length c, .int .i64 a, .slice B y.length cy] w fun e w' => ∃ A2 c2, e = .returned (.tuple #[.slice A2 l.length c2, .int .i64 0]) ∧ l.length ≤ c2 ∧ c2 ≤ maxLen ∧ Own w.heap.size w' A2 (put l a y) ∧ Chg Non w w' := by
  obtain ⟨h1, h2⟩ := there_yes ht
  obtain ⟨bl, ol, rfl, _⟩ := hr.at_ (by omega)
  obtain ⟨by_, oy, rfl, _⟩ := hry.at_ hn
  have HR := Lib.hid hr
  have HY := Lib.hid hry
  have HT := Lib.hid ht
  clear hr hry ht
  go_enter Tryz.func28, Tryz.ntmps28
  go_wp2_with fail
  refine (rThere_yes (some ⟨bl, ol, none⟩) l c a y.length w (by omega) HT.out).mono ?_
  rintro e w1 ⟨rfl, rfl⟩
  go_wp2_with (first
    | (refine sel (some 21) (.call _) ?_; refine Vm_stop ?_))
  refine HoleV.mk ?_
  refine wpList_appB rfl (.tmp 19) (.tmp 20) rfl w.heap.size (.slice (some ⟨w.heap.size, 0, none⟩) 0 0) [] rfl (own_emptyR w) (some ⟨bl, ol, none⟩) c l rfl (HR.out.non ((Chg.refl Non _).alloc _)) (by simp) (by omega) (by simp) (by simp; omega) ?_
  intro v2 w2 ho hg hat
  obtain ⟨A2, c2, rfl, q1, q2, q3⟩ := OwnR.own ho
  obtain ⟨b2, o2, rfl, _, _⟩ := q3.rd.at_ (by simp; omega)
  have HO := Lib.hid q3
  have HG := Lib.hid (((Chg.refl Non w).alloc _).then_new hg (fun x hx => (own_emptyR w).ge hx))
  rw [List.nil_append] at HO q1 ⊢
  have hge : w.heap.size ≤ b2 := HO.out.ge (fun e => absurd (congrArg List.length e) (by rw [List.length_nil]; omega))
  clear ho hg hat q3
  go_wp2_with fail
  go_loopw [10] (fun i wr => ∃ k : Nat, k ≤ y.length ∧ i = .int .i64 k ∧ Own w.heap.size wr (some ⟨b2, o2, none⟩) (put l a (y.take k)) ∧ Chg Non w wr) (fun i _ => y.length - (intOf i).toNat)
  case atStart => exact ⟨0, by omega, rfl, by rw [put_take_zero]; exact HO.out, HG.out⟩
  case round =>
    obtain ⟨k, hk, rfl, hO, hC⟩ := hrel
    by_cases hlt : k < y.length
    · have e1 := u8_cell (HY.out.non hC) k hlt
      have hpl : (put l a (y.take k)).length = l.length := put_len (by rw [List.length_take]; omega)
      have hak : a + k < (put l a (y.take k)).length := by omega
      have hO2 := hO.setByte (a + k) hak (y.getD k 0)
      rw [put_take_set l a k y hlt h2] at hO2
      have hcl := u8_cell hO.rd (a + k) hak
      obtain ⟨_, _, e, hb2, hcc, hfr⟩ := hO (a + k) _ (List.getElem?_eq_getElem hak)
      injection e with e
      injection e with ea eb _
      subst ea eb
      have hbl := lt_of_cell hcc
      obtain ⟨x, hx⟩ : ∃ x, y.getD k 0 = x := ⟨_, rfl⟩
      obtain ⟨z, hz⟩ : ∃ z, (put l a (y.take k)).getD (a + k) 0 = z := ⟨_, rfl⟩
      rw [hx] at e1 hO2
      rw [hz] at hcl
      have HO2 := Lib.hid hO2
      have HC2 := Lib.hid (hC.setCell (p := ⟨b2, o2 + (a + k), none⟩) (.inr hge) (.int .u8 (x.toNat : Nat)))
      have hlt' : decide ((k : Int) < (y.length : Int)) = true := by simpa using hlt
      have hin : (a : Int) + (k : Int) < (l.length : Int) := by omega
      have hki : (k : Int) < (y.length : Int) := by omega
      clear hO hC hO2 hpl hak hx hz hcc
      go_wp2_with fail
      case roundEnd =>
        exact ⟨⟨k + 1, by omega, by go_num, HO2.out, HC2.out⟩, by simp [intOf]; omega⟩
    · obtain rfl : k = y.length := by omega
      rw [List.take_length] at hO
      have HO := Lib.hid hO
      have HC := Lib.hid hC
      clear hO hC
      go_wp2_with fail
      go_ret2
      exact ⟨_, c2, rfl, q1, q2, HO.out, HC.out⟩
set_option maxRecDepth 100000 in
set_option maxHeartbeats 1000000 in
theorem rWrite_no (A : Option Addr) (l : List UInt8) (c a : Nat) (B : Option Addr) (y : List UInt8) (cy : Nat) (w : World) (hn4 : y.length ≤ 4) (ha : (a : Int) ≤ 4294967295 * 3) (ht : there l a y.length = false) :
    Calls Tryz.prog 28 #[.slice A l.length c, .int .i64 a, .slice B y.length cy] w fun e w' => ∃ er : Int, (er != 0) = true ∧ (er == 0) = false ∧ e = .returned (.tuple #[.slice none 0 0, .int .i64 er]) ∧ w = w' := by
  have HT := Lib.hid ht
  clear ht
  go_enter Tryz.func28, Tryz.ntmps28
  go_wp2_with fail
  refine (rThere_no A l c a y.length w (by omega) ha HT.out).mono ?_
  rintro e w1 ⟨er, h1, h2, rfl, rfl⟩
  go_wp2_with fail
  go_ret2
  exact ⟨er, h1, h2, rfl, rfl⟩
theorem u8_of (x : Nat) : ((UInt8.ofNat x).toNat : Int) = (x : Int) % 256 := by simp
set_option maxRecDepth 100000 in
set_option maxHeartbeats 1000000 in
theorem rWord_ok (x : Nat) (hx : x < 4294967296) (w : World) :
    Calls Tryz.prog 29 #[.int .u32 x] w fun e w' => e = .returned (.slice (some ⟨w.heap.size, 0, none⟩) 4 4) ∧ Rd w' (some ⟨w.heap.size, 0, none⟩) (word32 x) ∧ Chg Non w w' := by
  go_enter Tryz.func29, Tryz.ntmps29
  go_wp2_with fail
  go_ret
  refine ⟨rfl, ?_, (Chg.refl Non w).alloc _⟩
  refine Rd.of_at ?_
  intro i hi
  have hi4 : i < 4 := by simpa [word32] using hi
  have h' : i = 0 ∨ i = 1 ∨ i = 2 ∨ i = 3 := by omega
  have a1 := u8_of (x / 16777216)
  have a2 := u8_of (x / 65536)
  have a3 := u8_of (x / 256)
  have a4 := u8_of x
  rcases h' with rfl | rfl | rfl | rfl
  · rw [row_cell (i := 0) (heap_alloc_new w _) rfl]
    simp only [word32, List.getElem_cons_zero]
    rw [a1, show (((x / 16777216 : Nat) : Int) % 256) = (x : Int) / 16777216 by omega]
    rfl
  · rw [row_cell (i := 1) (heap_alloc_new w _) rfl]
    simp only [word32, List.getElem_cons_zero, List.getElem_cons_succ]
    rw [a2, show (((x / 65536 : Nat) : Int) % 256) = (x : Int) / 65536 % 256 by omega]
    rfl
  · rw [row_cell (i := 2) (heap_alloc_new w _) rfl]
    simp only [word32, List.getElem_cons_zero, List.getElem_cons_succ]
    rw [a3, show (((x / 256 : Nat) : Int) % 256) = (x : Int) / 256 % 256 by omega]
    rfl
  · rw [row_cell (i := 3) (heap_alloc_new w _) rfl]
    simp only [word32, List.getElem_cons_zero, List.getElem_cons_succ]
    rw [a4]
    rfl
end Go.Proofs.YtpcmnphohneddaaGreatDoor
