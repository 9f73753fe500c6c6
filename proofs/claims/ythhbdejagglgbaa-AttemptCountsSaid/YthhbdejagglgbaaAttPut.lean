/- The law AttemptPut: what was put is got, of its Seqn alone; a sector with one byte otherwise says nothing. Holds for every input; no condition. -/
import Derived.Test.YthhbdejagglgbaaAttP
import Derived.Test.YthhbdejagglgbaaAttAwake
namespace Go.Proofs.Ythhbdejagglgbaa
open Go.RowKit
set_option linter.unusedVariables false

/-- as Kept, of a sector s -/
def KeptS (w0 w : World) (pd ps pm : Nat) (s : List UInt8) : Prop :=
  ∃ D, IsD w pd ps pm D ∧ Calm D s ∧ w0.heap.size ≤ pd ∧ w0.heap.size ≤ ps ∧ w0.heap.size ≤ pm ∧ Chg Non w0 w

theorem KeptS.non {w0 w w' : World} {pd ps pm : Nat} {s : List UInt8} (h : KeptS w0 w pd ps pm s) (hg : Chg Non w w') : KeptS w0 w' pd ps pm s := by
  obtain ⟨D, h1, h2, h4, h5, h6, h7⟩ := h
  exact ⟨D, h1.non hg, h2, h4, h5, h6, h7.then_non hg⟩

theorem keptS_put {w0 w : World} {pd ps pm : Nat} {a b : Int} (h : Kept w0 w pd ps pm a b) (q n : Int) (hq : 1 ≤ q) (hn : 1 ≤ n) :
    Calls Try.prog 9 #[.pointer (some ⟨pd, 0, none⟩), .int .i64 q, .int .i64 n] w fun e w' => e = .returned (.int .i64 0) ∧ KeptS w0 w' pd ps pm (sealL 2 (form2 q n)) := by
  obtain ⟨D, s, h1, h2, h3, h4, h5, h6, h7⟩ := h
  obtain ⟨k1, k2⟩ := h2.put q n hq hn
  refine (Put_any pd ps pm D q n w h1 h2.sz (by rw [h2.len]; omega)).mono ?_
  rintro e w' ⟨rfl, hd, hg⟩
  rw [k1]
  refine ⟨rfl, _, hd, k2, h4, h5, h6, h7.then_new hg ?_⟩
  rintro x (rfl | rfl | rfl) <;> assumption

theorem keptS_get {w0 w : World} {pd ps pm : Nat} {s : List UInt8} (h : KeptS w0 w pd ps pm s) (q : Int) :
    Calls Try.prog 7 #[.pointer (some ⟨pd, 0, none⟩), .int .i64 q] w fun e w' => e = .returned (.tuple #[.int .i64 (recN s q), .int .i64 0]) ∧ KeptS w0 w' pd ps pm s := by
  have hk := h
  obtain ⟨D, h1, h2, h4, h5, h6, h7⟩ := h
  refine (Get_up pd ps pm D q w h1 h2.up (by rw [h2.len]; omega)).mono ?_
  rintro e w' ⟨rfl, hg⟩
  rw [h2.attN]
  exact ⟨rfl, hk.non hg⟩

theorem keptS_read {w0 w : World} {pd ps pm : Nat} {s : List UInt8} (h : KeptS w0 w pd ps pm s) :
    Calls Try.prog 12 #[.pointer (some ⟨pd, 0, none⟩), .int .i64 2] w fun e w' => ∃ A c, e = .returned (.tuple #[.slice A s.length c, .int .i64 0]) ∧ s.length ≤ c ∧ c ≤ maxLen ∧ Own w.heap.size w' A s ∧ KeptS w0 w' pd ps pm s := by
  have hk := h
  obtain ⟨D, h1, h2, h4, h5, h6, h7⟩ := h
  refine (Read_any pd ps pm D 2 w h1 h2.up (by rw [h2.len]; omega)).mono ?_
  rw [h2.at_]
  rintro e w' ⟨A, c, rfl, hc, hm, ho, hg⟩
  exact ⟨A, c, rfl, hc, hm, ho, hk.non hg⟩

/-- behind a Write: a disk that is up, and has s at 2 -/
def KeptW (w0 w : World) (pd ps pm : Nat) (s : List UInt8) : Prop :=
  ∃ D, IsD w pd ps pm D ∧ D.up = true ∧ D.sec.length = 3 ∧ D.at_ 2 = s ∧ Chg Non w0 w

theorem keptS_write {w0 w : World} {pd ps pm : Nat} {s : List UInt8} (h : KeptS w0 w pd ps pm s) (B : Option Addr) (l : List UInt8) (c : Nat) (hl : l.length = 64) (hr : Rd w B l) (hB : ∀ b o, B = some ⟨b, o, none⟩ → l ≠ [] → b ≠ pd) :
    Calls Try.prog 13 #[.pointer (some ⟨pd, 0, none⟩), .int .i64 2, .slice B l.length c] w fun e w' => e = .returned (.int .i64 0) ∧ KeptW w0 w' pd ps pm l := by
  obtain ⟨D, h1, h2, h4, h5, h6, h7⟩ := h
  have hwr : D.write 2 l = ({ D with left := 0, cache := [(2, l)] }, 0) := by
    obtain ⟨up, sec, cache, left, stay⟩ := D
    have hu := h2.up; have hlf := h2.left; have hc := h2.cache; have hln := h2.len
    simp only at hu hlf hc hln
    subst hu hlf hc
    unfold Dk.write Dk.operate
    simp only [Bool.true_eq_false, if_false]
    rw [if_neg (by omega), if_neg (by omega)]
    simp [upd]
    decide
  refine (Write_any pd ps pm D 2 B l c w h1 h2.sz hr hB).mono ?_
  rw [hwr]
  rintro e w' ⟨rfl, hd, hg⟩
  refine ⟨rfl, _, hd, h2.up, h2.len, by simp [Dk.at_, look], h7.then_new hg ?_⟩
  rintro x (rfl | rfl | rfl) <;> assumption

theorem keptW_get {w0 w : World} {pd ps pm : Nat} {s : List UInt8} (h : KeptW w0 w pd ps pm s) (q : Int) :
    Calls Try.prog 7 #[.pointer (some ⟨pd, 0, none⟩), .int .i64 q] w fun e w' => e = .returned (.tuple #[.int .i64 (recN s q), .int .i64 0]) ∧ Chg Non w0 w' := by
  obtain ⟨D, h1, h2, h3, h4, h7⟩ := h
  refine (Get_up pd ps pm D q w h1 h2 (by rw [h3]; omega)).mono ?_
  rintro e w' ⟨rfl, hg⟩
  have : attN D q = recN s q := by unfold attN recN; rw [h4]
  rw [this]
  exact ⟨rfl, h7.then_non hg⟩

set_option maxRecDepth 100000 in
set_option maxHeartbeats 2000000 in
theorem attPut_walk (q n at_ : Int) (over : UInt8) (hq : q ≤ 9223372036854775807) (hn : n ≤ 9223372036854775807) (w : World) :
    Calls Try.prog 5 #[.int .i64 q, .int .i64 n, .int .i64 at_, .int .u8 over.toNat] w fun e w' => e = .returned (.bool true) ∧ Chg Non w w' := by
  have HA := Lib.hid (awake_ok w)
  go_enter Try.func5, Try.ntmps5
  go_wp2_with fail
  refine HA.out.mono ?_
  rintro e w1 ⟨rfl, g1⟩
  go_wp2_with fail
  refine (kept_new w _ g1).mono ?_
  rintro e w2 ⟨pd, ps, pm, rfl, k2⟩
  have K2 := Lib.hid k2
  clear k2
  go_wp2_with fail
  by_cases h1 : q < 1 ∨ n < 1
  · refine (kept_put_arg K2.out q n (by omega)).mono ?_
    rintro e w3 ⟨rfl, k3⟩
    have K3 := Lib.hid k3
    clear k3
    go_wp2_with fail
    refine (kept_get K3.out q).mono ?_
    rw [show (if (0 : Int) = q then (0 : Int) else 0) = 0 by split <;> rfl]
    rintro e w4 ⟨rfl, k4⟩
    have K4 := Lib.hid k4.chg
    clear k4
    by_cases h2 : q < 1
    · have h2d : decide (q < 1) = true := by simpa using h2
      go_wp2
      go_ret
      exact ⟨rfl, K4.out⟩
    · have h2d : decide (q < 1) = false := by simpa using h2
      have h3d : decide (n < 1) = true := by simp; omega
      go_wp2
      go_ret
      exact ⟨rfl, K4.out⟩
  · have h2d : decide (q < 1) = false := by simp; omega
    have h3d : decide (n < 1) = false := by simp; omega
    refine (keptS_put K2.out q n (by omega) (by omega)).mono ?_
    rintro e w3 ⟨rfl, k3⟩
    have K3 := Lib.hid k3
    clear k3
    go_wp2_with fail
    refine (keptS_get K3.out q).mono ?_
    rw [recN_seal q n q (by omega) (by omega) hq hn, if_pos rfl]
    rintro e w4 ⟨rfl, k4⟩
    have K4 := Lib.hid k4
    clear k4
    have hkill : ∀ (k : Nat) (x : UInt8), k < 64 → (sealL 2 (form2 q n))[k]? ≠ some x → recN ((sealL 2 (form2 q n)).set k x) q = 0 := by
      intro k x hk hx
      unfold recN
      rw [attRec_one 2 _ k x hx (by rw [sealL_len _ _ (by rw [form2_len]; omega)]; omega)]
      simp
    have hlen : (sealL 2 (form2 q n)).length = 64 := sealL_len _ _ (by rw [form2_len]; omega)
    obtain ⟨s, hs⟩ : ∃ s, sealL 2 (form2 q n) = s := ⟨_, rfl⟩
    rw [hs] at K4 hkill hlen
    clear hs K3 K2
    by_cases c1 : at_ < 0
    · have c1d : decide (at_ < 0) = true := by simpa using c1
      have HC := Lib.hid K4.out
      obtain ⟨_, _, _, _, _, _, g7⟩ := K4.out
      go_wp2
      go_ret
      exact ⟨rfl, g7⟩
    have c1d : decide (at_ < 0) = false := by simpa using c1
    by_cases c2 : 63 < at_
    · have c2d : decide (63 < at_) = true := by simpa using c2
      obtain ⟨_, _, _, _, _, _, g7⟩ := K4.out
      go_wp2
      go_ret
      exact ⟨rfl, g7⟩
    have c2d : decide (63 < at_) = false := by simpa using c2
    by_cases c3 : over = 0
    · subst c3
      obtain ⟨_, _, _, _, _, _, g7⟩ := K4.out
      go_wp2
      go_ret
      exact ⟨rfl, g7⟩
    have c3d : ((over.toNat : Int) == 0) = false := by
      rw [beq_eq_false_iff_ne]
      intro e
      apply c3
      apply UInt8.toNat_inj.1
      simpa using e
    have HR := Lib.hid (keptS_read K4.out)
    rw [hlen] at HR
    go_wp2_with fail
    refine HR.out.mono ?_
    rintro e w5 ⟨A, c, rfl, hc, hm, ho, k5⟩
    have K5 := Lib.hid k5
    clear k5
    obtain ⟨k, rfl⟩ : ∃ k : Nat, at_ = k := ⟨at_.toNat, by omega⟩
    have hk : k < s.length := by omega
    obtain ⟨b, o, rfl, hbig, hcell, hfz⟩ := ho k s[k] (List.getElem?_eq_getElem hk)
    have HO := Lib.hid ho
    clear ho
    have hx : bits .xor .u8 (s[k].toNat : Int) (over.toNat : Int) = ((s[k] ^^^ over).toNat : Int) := by
      rw [UInt8.toNat_xor]
      exact u8_xor_nat _ _ s[k].toNat_lt over.toNat_lt
    have hy := hkill k (s[k] ^^^ over) (by omega) (by
      rw [List.getElem?_eq_getElem hk]
      intro e
      injection e with e
      exact c3 (xor_other _ _ e.symm))
    obtain ⟨y, hyy⟩ : ∃ y, s[k] ^^^ over = y := ⟨_, rfl⟩
    rw [hyy] at hx hy
    obtain ⟨D, d1, d2, d4, d5, d6, d7⟩ := K4.out
    have dl := d1.lt
    obtain ⟨D5, e1, e2, e4, e5, e6, e7⟩ := K5.out
    have hbl := lt_of_cell hcell
    have hks : KeptS w (w5.setCell ⟨b, o + k, none⟩ (.int .u8 (y.toNat : Int))) pd ps pm s := by
      have hg : Chg (fun x => x = b) w5 (w5.setCell ⟨b, o + k, none⟩ (.int .u8 (y.toNat : Int))) := (Chg.refl (fun x => x = b) _).setCell (p := ⟨b, o + k, none⟩) (.inl rfl) _
      refine ⟨D5, e1.keep hg (fun x hx e => ?_) (fun A' c' _ b' o' _ hne => absurd e2.stay hne), e2, e4, e5, e6, e7.then_new hg ?_⟩
      · subst e
        omega
      · rintro x rfl
        have := d7.size
        omega
    have hrd : Rd (w5.setCell ⟨b, o + k, none⟩ (.int .u8 (y.toNat : Int))) (some ⟨b, o, none⟩) (s.set k y) := by
      refine Rd.of_at fun i hi => ?_
      rw [List.length_set] at hi
      by_cases hik : k = i
      · subst hik
        rw [World.cell?_setCell_same _ _ _ hcell]
        simp
      · rw [World.cell?_setCell_other _ _ _ _ (by intro e; injection e with _ e _; omega)]
        obtain ⟨b', o', e, _, hc', _⟩ := HO.out i s[i] (List.getElem?_eq_getElem hi)
        injection e with e
        injection e with e1' e2' _
        subst e1' e2'
        rw [hc', List.getElem_set_ne hik]
    have HW := Lib.hid (keptS_write hks (some ⟨b, o, none⟩) (s.set k y) c (by simpa using hlen) hrd (by
      intro b' o' e _
      injection e with e
      injection e with e _
      subst e
      omega))
    rw [List.length_set, hlen] at HW
    clear hks hrd hkill hbig
    go_wp2_with fail
    refine HW.out.mono ?_
    rintro e w6 ⟨rfl, k6⟩
    have HG := Lib.hid (keptW_get k6 q)
    rw [hy] at HG
    clear k6
    go_wp2_with fail
    refine HG.out.mono ?_
    rintro e w7 ⟨rfl, g7⟩
    go_wp2
    go_ret
    exact ⟨rfl, g7⟩
end Go.Proofs.Ythhbdejagglgbaa
