/- Walks of package wire, readers: whole, breaks, take, field[int], Int, Left, Err, End, NewReader. -/
import Derived.Test.YthhbdejagglgbaaGreatBytes
import Derived.Test.YthhbdejagglgbaaGreatWords
namespace Go.Proofs.YthhbdejagglgbaaGreat
open Go.RowKit
set_option linter.unusedVariables false

/-- block p is a reader with the bytes l in front, and its error -/
def IsR (w : World) (p : Nat) (l : List UInt8) (er : Int) : Prop :=
  ∃ A c, w.heap[p]? = some (.cells #[.slice A l.length c, .bool true, .int .i64 er] 113 (0, 0)) ∧ Rd w A l ∧ l.length ≤ c ∧ c ≤ maxLen

def At (p : Nat) : Nat → Prop := fun k => k = p

theorem rd_ne {w : World} {p : Nat} {A : Option Addr} {l : List UInt8} {v : Value} {er : Int} {t : TypeId} {fr : Nat × Nat} (hb : w.heap[p]? = some (.cells #[v, .bool true, .int .i64 er] t fr)) (hv : ∀ x : UInt8, v ≠ .int .u8 (x.toNat : Int)) (h : Rd w A l) :
    ∀ b o, A = some ⟨b, o, none⟩ → l ≠ [] → ¬ At p b := by
  rintro b o rfl hne rfl
  obtain ⟨x, r, rfl⟩ := List.exists_cons_of_ne_nil hne
  obtain ⟨b', o', e, hc⟩ := h 0 x rfl
  injection e with e
  injection e with e1 e2
  subst e1 e2
  rw [cell_of_row _ _ _ _ _ _ hb] at hc
  have hn := hv x
  match h' : o + 0, hc with
  | 0, hc => simp at hc; exact hn hc
  | 1, hc => simp at hc
  | 2, hc => simp at hc
  | n + 3, hc => simp at hc

theorem IsR.non {w w' : World} {p : Nat} {l : List UInt8} {er : Int} (h : IsR w p l er) (hg : Chg Non w w') : IsR w' p l er := by
  obtain ⟨A, c, hb, hr, hc⟩ := h
  exact ⟨A, c, (hg.block p (Array.getElem?_eq_some_iff.1 hb).1 (fun e => e)).trans hb, hr.non hg, hc⟩
theorem IsR.lt {w : World} {p : Nat} {l : List UInt8} {er : Int} (h : IsR w p l er) : p < w.heap.size := by
  obtain ⟨A, c, hb, _⟩ := h
  exact (Array.getElem?_eq_some_iff.1 hb).1

set_option maxRecDepth 100000 in
set_option maxHeartbeats 2000000 in
theorem rwhole_any (p : Nat) (l : List UInt8) (er : Int) (w : World) (hR : IsR w p l er) :
    Calls Tryz.prog 111 #[.pointer (some ⟨p, 0, none⟩)] w fun e w' => e = .returned (.bool (er == 0)) ∧ w = w' := by
  obtain ⟨A, c, hb, hr, hc⟩ := hR
  have h1 : w.cell? ⟨p, 1, none⟩ = some (.bool true) := by rw [cell_of_row _ _ _ _ _ _ hb]; rfl
  have h2 : w.cell? ⟨p, 2, none⟩ = some (.int .i64 er) := by rw [cell_of_row _ _ _ _ _ _ hb]; rfl
  clear hb
  go_enter Tryz.func111, Tryz.ntmps111
  go_wp2
  go_ret
  exact ⟨rfl, rfl⟩

theorem isR_set {w w' : World} {p c : Nat} {A A' : Option Addr} {l l' : List UInt8} {er er' : Int} {cs : Array Value} (hb : w.heap[p]? = some (.cells cs 113 (0, 0)))
    (hb' : w'.heap[p]? = some (.cells #[.slice A' l'.length c, .bool true, .int .i64 er'] 113 (0, 0))) (hg : Chg (At p) w w') (hr : Rd w A' l') (hne : ∀ b o, A' = some ⟨b, o, none⟩ → l' ≠ [] → ¬ At p b)
    (hc : l'.length ≤ c) (hm : c ≤ maxLen) : IsR w' p l' er' := ⟨A', c, hb', hr.keep hg hne, hc, hm⟩

set_option maxRecDepth 100000 in
set_option maxHeartbeats 2000000 in
theorem breaks_ok (p : Nat) (l : List UInt8) (w : World) (hR : IsR w p l 0) :
    Calls Tryz.prog 109 #[.pointer (some ⟨p, 0, none⟩)] w fun e w' => e = .returned (.tuple #[]) ∧ IsR w' p [] 50 ∧ Chg (At p) w w' := by
  have hw := rwhole_any p l 0 w hR
  obtain ⟨A, c, hb, hr, hc⟩ := hR
  have h0 : w.cell? ⟨p, 0, none⟩ = some (.slice A l.length c) := by rw [cell_of_row _ _ _ _ _ _ hb]; rfl
  have h2 : w.cell? ⟨p, 2, none⟩ = some (.int .i64 0) := by rw [cell_of_row _ _ _ _ _ _ hb]; rfl
  have f0 : w.frozen? ⟨p, 0, none⟩ = false := frozen_of_row _ _ _ _ _ hb
  have f2 : w.frozen? ⟨p, 2, none⟩ = false := frozen_of_row _ _ _ _ _ hb
  have HB := Lib.hid hb
  have HW := Lib.hid hw
  clear hb hw
  go_enter Tryz.func109, Tryz.ntmps109
  go_wp2_with fail
  refine HW.out.mono ?_
  rintro e w' ⟨rfl, rfl⟩
  go_wp2
  go_end0
  refine ⟨rfl, ⟨none, 0, ?_, Rd.nil _ _, by simp, by simp⟩, ((Chg.refl (At p) _).setCell (p := ⟨p, 0, none⟩) (.inl rfl) _).setCell (p := ⟨p, 2, none⟩) (.inl rfl) _⟩
  rw [heap_setCell_same _ _ _ _ _ _ (heap_setCell_same _ _ _ _ _ _ HB.out)]
  rfl

set_option maxRecDepth 100000 in
set_option maxHeartbeats 2000000 in
theorem breaks_no (p : Nat) (l : List UInt8) (er : Int) (w : World) (hR : IsR w p l er) (he : er ≠ 0) :
    Calls Tryz.prog 109 #[.pointer (some ⟨p, 0, none⟩)] w fun e w' => e = .returned (.tuple #[]) ∧ w = w' := by
  have hw := rwhole_any p l er w hR
  rw [show (er == 0) = false by simpa using he] at hw
  have HW := Lib.hid hw
  clear hw
  go_enter Tryz.func109, Tryz.ntmps109
  go_wp2_with fail
  refine HW.out.mono ?_
  rintro e w' ⟨rfl, rfl⟩
  go_wp2
  go_end0
  exact ⟨rfl, rfl⟩

theorem take_ne {l : List UInt8} {n : Nat} (h : l.take n ≠ []) : l ≠ [] := by rintro rfl; simp at h

theorem take_close {w : World} {p n c : Nat} {A : Option Addr} {l : List UInt8} (hb : w.heap[p]? = some (.cells #[.slice A l.length c, .bool true, .int .i64 0] 113 (0, 0))) (hr : Rd w A l) (hn : n ≤ l.length)
    (hc : l.length ≤ c) (hm : c ≤ maxLen) (X : Option Addr) (hX : l.drop n ≠ [] → X = A.map (·.add n)) (d : Nat) (hd1 : l.length - n ≤ d) (hd2 : d ≤ maxLen) :
    IsR (w.setCell ⟨p, 0, none⟩ (.slice X (l.length - n) d)) p (l.drop n) 0 ∧ Chg (At p) w (w.setCell ⟨p, 0, none⟩ (.slice X (l.length - n) d)) := by
  have hne := rd_ne hb (fun x => by simp) hr
  have hg : Chg (At p) w (w.setCell ⟨p, 0, none⟩ (.slice X (l.length - n) d)) := (Chg.refl (At p) _).setCell (p := ⟨p, 0, none⟩) (.inl rfl) _
  have hrd : Rd w X (l.drop n) := by
    by_cases h : l.drop n = []
    · rw [h]; exact Rd.nil _ _
    · rw [hX h]
      have h0 : 0 < l.length := by
        rcases Nat.eq_zero_or_pos l.length with h0 | h0
        · exact absurd (List.drop_of_length_le (by omega)) h
        · exact h0
      obtain ⟨b, o, rfl, _, _⟩ := hr.at_ h0
      simp only [Option.map_some, add_plain]
      exact hr.drop n
  refine ⟨⟨X, d, ?_, hrd.keep hg ?_, by rw [List.length_drop]; exact hd1, hd2⟩, hg⟩
  · rw [heap_setCell_same _ _ _ _ _ _ hb, List.length_drop]; rfl
  · intro b o e h
    rw [hX h] at e
    obtain ⟨a, ha, e'⟩ := Option.map_eq_some_iff.1 e
    have h0 : l ≠ [] := by rintro rfl; simp at h
    obtain ⟨b', o', rfl, _, _⟩ := hr.at_ (List.length_pos_iff.2 h0)
    injection ha with ha
    subst ha
    rw [add_plain] at e'
    injection e' with e1 e2
    subst e1
    exact hne _ _ rfl h0

set_option maxRecDepth 100000 in
set_option maxHeartbeats 2000000 in
theorem take_ok (p n : Nat) (l : List UInt8) (w : World) (hR : IsR w p l 0) (hn : n ≤ l.length) :
    Calls Tryz.prog 108 #[.pointer (some ⟨p, 0, none⟩), .int .i64 n] w fun e w' => ∃ A, e = .returned (.tuple #[.slice A n n, .bool true]) ∧ Rd w' A (l.take n) ∧ IsR w' p (l.drop n) 0 ∧ Chg (At p) w w' := by
  have hw := rwhole_any p l 0 w hR
  obtain ⟨A, c, hb, hr, hc, hm⟩ := hR
  have h0 : w.cell? ⟨p, 0, none⟩ = some (.slice A l.length c) := by rw [cell_of_row _ _ _ _ _ _ hb]; rfl
  have f0 : w.frozen? ⟨p, 0, none⟩ = false := frozen_of_row _ _ _ _ _ hb
  have hne := rd_ne hb (fun x => by simp) hr
  have HB := Lib.hid hb
  have HW := Lib.hid hw
  clear hb hw
  unfold maxLen at hm
  have hd : decide ((n : Int) > l.length) = false := by simp; omega
  go_enter Tryz.func108, Tryz.ntmps108
  go_wp2_with fail
  refine HW.out.mono ?_
  rintro e w' ⟨rfl, rfl⟩
  by_cases hnl : n < l.length
  · have hcn : ¬ c = n := by omega
    go_wp2
    go_ret2
    have hcl := take_close HB.out hr hn hc (by unfold maxLen; omega) (A.map (·.add n)) (fun _ => rfl) (c - n) (by omega) (by unfold maxLen; omega)
    exact ⟨A, rfl, (hr.take n).keep hcl.2 (fun b o e h => hne b o e (take_ne h)), hcl⟩
  · have hcl := fun X d h1 h2 => take_close HB.out hr hn hc (by unfold maxLen; omega) X (fun h => absurd (List.drop_of_length_le (by omega)) h) d h1 h2
    have HCl := Lib.hid hcl
    clear hcl
    go_wp2
    all_goals
      go_ret2
      refine ⟨A, rfl, (hr.take n).keep ?_ (fun b o e h => hne b o e (take_ne h)), HCl.out _ _ (by omega) (by unfold maxLen; omega)⟩
      exact (Chg.refl (At p) _).setCell (p := ⟨p, 0, none⟩) (.inl rfl) _

set_option maxRecDepth 100000 in
set_option maxHeartbeats 2000000 in
theorem take_short (p n : Nat) (l : List UInt8) (w : World) (hR : IsR w p l 0) (hn : l.length < n) :
    Calls Tryz.prog 108 #[.pointer (some ⟨p, 0, none⟩), .int .i64 n] w fun e w' => e = .returned (.tuple #[.slice none 0 0, .bool false]) ∧ IsR w' p [] 50 ∧ Chg (At p) w w' := by
  have hw := rwhole_any p l 0 w hR
  have hbr := breaks_ok p l w hR
  obtain ⟨A, c, hb, hr, hc, hm⟩ := hR
  have h0 : w.cell? ⟨p, 0, none⟩ = some (.slice A l.length c) := by rw [cell_of_row _ _ _ _ _ _ hb]; rfl
  have HB := Lib.hid hb
  have HW := Lib.hid hw
  have HBr := Lib.hid hbr
  clear hb hw hbr
  have hd : decide ((n : Int) > l.length) = true := by simp; omega
  go_enter Tryz.func108, Tryz.ntmps108
  go_wp2_with fail
  refine HW.out.mono ?_
  rintro e w' ⟨rfl, rfl⟩
  go_wp2_with fail
  refine HBr.out.mono ?_
  rintro e w' ⟨rfl, hR, hg⟩
  go_wp2
  go_ret2
  exact ⟨rfl, hR, hg⟩

set_option maxRecDepth 100000 in
set_option maxHeartbeats 2000000 in
theorem take_broken (p : Nat) (n : Int) (l : List UInt8) (er : Int) (w : World) (hR : IsR w p l er) (he : er ≠ 0) :
    Calls Tryz.prog 108 #[.pointer (some ⟨p, 0, none⟩), .int .i64 n] w fun e w' => e = .returned (.tuple #[.slice none 0 0, .bool false]) ∧ w = w' := by
  have hw := rwhole_any p l er w hR
  rw [show (er == 0) = false by simpa using he] at hw
  have hbr := breaks_no p l er w hR he
  have HW := Lib.hid hw
  have HBr := Lib.hid hbr
  clear hw hbr
  go_enter Tryz.func108, Tryz.ntmps108
  go_wp2_with fail
  refine HW.out.mono ?_
  rintro e w' ⟨rfl, rfl⟩
  go_wp2_with fail
  refine HBr.out.mono ?_
  rintro e w' ⟨rfl, rfl⟩
  go_wp2
  go_ret2
  exact ⟨rfl, rfl⟩

/-! ### a number -/
def i64 (n : Nat) : Int := wrap64 n

set_option maxRecDepth 100000 in
set_option maxHeartbeats 2000000 in
theorem Int1_ok (A : Option Addr) (l : List UInt8) (w : World) (hr : Rd w A l) (hl : l.length = 8) :
    Calls Tryz.prog 85 #[.slice A 8 8] w fun e w' => e = .returned (.tuple #[.int .i64 (i64 (num l)), .bool true]) ∧ w = w' := by
  have hld := Load64_ok A l 8 w hr hl (by omega) (by omega)
  have e : i64 (num l) = wrap64 (num l : Nat) := rfl
  have HL := Lib.hid hld
  have HE := Lib.hid e
  clear hld e
  obtain ⟨x, hx⟩ : ∃ x, num l = x := ⟨_, rfl⟩
  rw [hx] at HL HE ⊢
  clear hx
  go_enter Tryz.func85, Tryz.ntmps85
  go_wp2_with fail
  refine HL.out.mono ?_
  rintro e w' ⟨rfl, rfl⟩
  go_wp2
  go_ret2
  rw [HE.out]
  exact ⟨rfl, rfl⟩

set_option maxRecDepth 100000 in
set_option maxHeartbeats 2000000 in
theorem fieldInt_ok (p : Nat) (l : List UInt8) (w : World) (hR : IsR w p l 0) (hn : 8 ≤ l.length) :
    Calls Tryz.prog 84 #[.pointer (some ⟨p, 0, none⟩), .int .i64 8, .func (.func 85) #[] #[]] w fun e w' => e = .returned (.int .i64 (i64 (num (l.take 8)))) ∧ IsR w' p (l.drop 8) 0 ∧ Chg (At p) w w' := by
  have ht := take_ok p 8 l w hR hn
  have HT := Lib.hid ht
  clear ht
  have hl8 : (l.take 8).length = 8 := by rw [List.length_take]; omega
  have HI := Lib.hid (fun A W h => Int1_ok A (l.take 8) W h hl8)
  clear hl8
  go_enter Tryz.func84, Tryz.ntmps84
  go_wp2_with fail
  refine HT.out.mono ?_
  rintro e w1 ⟨A, rfl, hr, hR1, hg⟩
  go_wp2_with fail
  refine (HI.out A w1 hr).mono ?_
  rintro e w2 ⟨rfl, rfl⟩
  go_wp2
  go_ret
  exact ⟨rfl, hR1, hg⟩

set_option maxRecDepth 100000 in
set_option maxHeartbeats 2000000 in
theorem fieldInt_short (p : Nat) (l : List UInt8) (w : World) (hR : IsR w p l 0) (hn : l.length < 8) :
    Calls Tryz.prog 84 #[.pointer (some ⟨p, 0, none⟩), .int .i64 8, .func (.func 85) #[] #[]] w fun e w' => e = .returned (.int .i64 0) ∧ IsR w' p [] 50 ∧ Chg (At p) w w' := by
  have ht := take_short p 8 l w hR hn
  have HT := Lib.hid ht
  clear ht
  go_enter Tryz.func84, Tryz.ntmps84
  go_wp2_with fail
  refine HT.out.mono ?_
  rintro e w1 ⟨rfl, hR1, hg⟩
  go_wp2
  go_ret
  exact ⟨rfl, hR1, hg⟩

set_option maxRecDepth 100000 in
set_option maxHeartbeats 2000000 in
theorem fieldInt_broken (p : Nat) (l : List UInt8) (er : Int) (w : World) (hR : IsR w p l er) (he : er ≠ 0) :
    Calls Tryz.prog 84 #[.pointer (some ⟨p, 0, none⟩), .int .i64 8, .func (.func 85) #[] #[]] w fun e w' => e = .returned (.int .i64 0) ∧ w = w' := by
  have ht := take_broken p 8 l er w hR he
  have HT := Lib.hid ht
  clear ht
  go_enter Tryz.func84, Tryz.ntmps84
  go_wp2_with fail
  refine HT.out.mono ?_
  rintro e w1 ⟨rfl, rfl⟩
  go_wp2
  go_ret
  exact ⟨rfl, rfl⟩

/-- what a number read off leaves: the number, what stands in front, the error -/
def rdInt (l : List UInt8) (er : Int) : Int × List UInt8 × Int :=
  if er = 0 then (if 8 ≤ l.length then (i64 (num (l.take 8)), l.drop 8, 0) else (0, [], 50)) else (0, l, er)

set_option maxRecDepth 100000 in
set_option maxHeartbeats 2000000 in
theorem RInt_any (p : Nat) (l : List UInt8) (er : Int) (w : World) (hR : IsR w p l er) :
    Calls Tryz.prog 51 #[.pointer (some ⟨p, 0, none⟩)] w fun e w' => e = .returned (.int .i64 (rdInt l er).1) ∧ IsR w' p (rdInt l er).2.1 (rdInt l er).2.2 ∧ Chg (At p) w w' := by
  have hf : Calls Tryz.prog 84 #[.pointer (some ⟨p, 0, none⟩), .int .i64 8, .func (.func 85) #[] #[]] w fun e w' => e = .returned (.int .i64 (rdInt l er).1) ∧ IsR w' p (rdInt l er).2.1 (rdInt l er).2.2 ∧ Chg (At p) w w' := by
    unfold rdInt
    by_cases he : er = 0
    · subst he
      by_cases hl : 8 ≤ l.length
      · simp only [hl, if_true]
        exact fieldInt_ok p l w hR hl
      · simp only [hl, if_true, if_false]
        exact fieldInt_short p l w hR (by omega)
    · simp only [he, if_false]
      refine (fieldInt_broken p l er w hR he).mono ?_
      rintro e w' ⟨rfl, rfl⟩
      exact ⟨rfl, hR, Chg.refl _ _⟩
  have HF := Lib.hid hf
  clear hf
  obtain ⟨⟨x, l', er'⟩, hq⟩ : ∃ q, rdInt l er = q := ⟨_, rfl⟩
  rw [hq] at HF ⊢
  clear hq
  go_enter Tryz.func51, Tryz.ntmps51
  go_wp2_with fail
  refine HF.out.mono ?_
  rintro e w1 ⟨rfl, hR1, hg⟩
  go_wp2
  go_ret
  exact ⟨rfl, hR1, hg⟩

set_option maxRecDepth 100000 in
set_option maxHeartbeats 2000000 in
theorem End_any (p : Nat) (l : List UInt8) (er : Int) (w : World) (hR : IsR w p l er) :
    Calls Tryz.prog 55 #[.pointer (some ⟨p, 0, none⟩)] w fun e w' => e = .returned (.int .i64 (if er = 0 ∧ l ≠ [] then 50 else er)) ∧ w = w' := by
  have hw := rwhole_any p l er w hR
  obtain ⟨A, c, hb, hr, hc, hm⟩ := hR
  have h0 : w.cell? ⟨p, 0, none⟩ = some (.slice A l.length c) := by rw [cell_of_row _ _ _ _ _ _ hb]; rfl
  have h1 : w.cell? ⟨p, 1, none⟩ = some (.bool true) := by rw [cell_of_row _ _ _ _ _ _ hb]; rfl
  have h2 : w.cell? ⟨p, 2, none⟩ = some (.int .i64 er) := by rw [cell_of_row _ _ _ _ _ _ hb]; rfl
  clear hb
  unfold maxLen at hm
  have HW := Lib.hid hw
  clear hw
  -- Left
  have hleft : Calls Tryz.prog 93 #[.pointer (some ⟨p, 0, none⟩)] w fun e w' => e = .returned (.int .i64 (if er = 0 then (l.length : Int) else 0)) ∧ w = w' := by
    by_cases he : er = 0
    · subst he
      go_enter Tryz.func93, Tryz.ntmps93
      go_wp2_with fail
      refine HW.out.mono ?_
      rintro e w1 ⟨rfl, rfl⟩
      go_wp2
      go_ret
      exact ⟨rfl, rfl⟩
    · have hd : (er == 0) = false := by simpa using he
      simp only [he, if_false]
      go_enter Tryz.func93, Tryz.ntmps93
      go_wp2_with fail
      refine HW.out.mono ?_
      rintro e w1 ⟨rfl, rfl⟩
      go_wp2
      go_ret
      exact ⟨rfl, rfl⟩
  have herr : Calls Tryz.prog 94 #[.pointer (some ⟨p, 0, none⟩)] w fun e w' => e = .returned (.int .i64 er) ∧ w = w' := by
    go_enter Tryz.func94, Tryz.ntmps94
    go_wp2
    go_ret
    exact ⟨rfl, rfl⟩
  have HL := Lib.hid hleft
  have HE := Lib.hid herr
  clear hleft herr
  by_cases hq : er = 0 ∧ l ≠ []
  · rw [if_pos hq]
    obtain ⟨rfl, hne⟩ := hq
    have hpos : 0 < l.length := List.length_pos_iff.2 hne
    simp only [if_true] at HL
    go_enter Tryz.func55, Tryz.ntmps55
    go_wp2_with fail
    refine HL.out.mono ?_
    rintro e w1 ⟨rfl, rfl⟩
    go_wp2
    go_ret
    exact ⟨rfl, rfl⟩
  · rw [if_neg hq]
    have hz : (if er = 0 then (l.length : Int) else 0) = 0 := by
      by_cases he : er = 0
      · subst he
        have : l = [] := by
          rcases l with _ | ⟨x, r⟩
          · rfl
          · exact absurd ⟨rfl, by simp⟩ hq
        subst this
        rfl
      · simp [he]
    rw [hz] at HL
    clear hq hz
    go_enter Tryz.func55, Tryz.ntmps55
    go_wp2_with fail
    refine HL.out.mono ?_
    rintro e w1 ⟨rfl, rfl⟩
    go_wp2_with fail
    refine HE.out.mono ?_
    rintro e w1 ⟨rfl, rfl⟩
    go_wp2
    go_ret
    exact ⟨rfl, rfl⟩

set_option maxRecDepth 100000 in
set_option maxHeartbeats 2000000 in
theorem NewReader_ok (A : Option Addr) (l : List UInt8) (c : Nat) (w : World) (hr : Rd w A l) (hl : l.length ≤ 65536) :
    Calls Tryz.prog 50 #[.slice A l.length c] w fun e w' => e = .returned (.pointer (some ⟨w.heap.size, 0, none⟩)) ∧ IsR w' w.heap.size l 0 ∧ Chg Non w w' := by
  have hd : decide ((l.length : Int) > 65536) = false := by simp; omega
  go_enter Tryz.func50, Tryz.ntmps50
  go_wp2_with fail
  refine (Cat1 A l c _ _ _ (by simp) (hr.non ((Chg.refl _ _).alloc _)) (by omega)).mono ?_
  rintro e w1 ⟨A1, c1, rfl, hc1, hm1, ho1, hg1⟩
  have hb1 : w1.heap[w.heap.size]? = some (.cells #[.slice none 0 0, .bool true, .int .i64 0] 113 (0, 0)) := (hg1.block _ (by simp) (fun e => e)).trans (heap_alloc_new _ _)
  have h0 : w1.cell? ⟨w.heap.size, 0, none⟩ = some (.slice none 0 0) := by rw [cell_of_row _ _ _ _ _ _ hb1]; rfl
  have f0 : w1.frozen? ⟨w.heap.size, 0, none⟩ = false := frozen_of_row _ _ _ _ _ hb1
  have HB := Lib.hid hb1
  clear hb1
  have hsz : w.heap.size < w1.heap.size := by have := hg1.size; simp at this; omega
  go_wp2
  go_ret
  have hgs : Chg (At w.heap.size) w1 (w1.setCell ⟨w.heap.size, 0, none⟩ (.slice A1 l.length c1)) := (Chg.refl (At w.heap.size) _).setCell (p := ⟨w.heap.size, 0, none⟩) (.inl rfl) _
  refine ⟨rfl, ⟨A1, c1, ?_, ho1.rd.keep hgs ?_, hc1, hm1⟩, ?_⟩
  · rw [heap_setCell_same _ _ _ _ _ _ HB.out]; rfl
  · rintro b o rfl hne h
    have := ho1.ge hne
    simp at this
    unfold At at h
    omega
  · exact (((Chg.refl Non w).alloc _).then_non hg1).setCell (.inr (Nat.le_refl _)) _
end Go.Proofs.YthhbdejagglgbaaGreat
