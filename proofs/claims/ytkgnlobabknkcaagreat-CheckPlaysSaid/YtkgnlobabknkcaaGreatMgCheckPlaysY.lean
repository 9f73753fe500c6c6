/- CheckPlays, part 25 of 27: contracts of the functions that it reaches, and the laws that they need, merged and shortened (from my texts XDkN, XPkO). -/
import Derived.Test.YtkgnlobabknkcaaGreatMgCheckPlaysA
import Derived.Test.YtkgnlobabknkcaaGreatMgCheckPlaysK
import Derived.Test.YtkgnlobabknkcaaGreatMgCheckPlaysX
import Derived.Laws.BitsAllLaws
namespace Go.Proofs.YtkgnlobabknkcaaGreat
set_option linter.unusedVariables false
set_option linter.unusedSimpArgs false
set_option maxHeartbeats 8000000
set_option maxRecDepth 100000
section
open Go.RowKit
theorem stay0 {w w' : World} {pd : Nat} (h : pd < w.heap.size) (hg : Chg Non w w') : w'.cell? ⟨pd, 4, none⟩ = w.cell? ⟨pd, 4, none⟩ := by
 have := hg.block pd h (fun e => e)
 unfold World.cell?
 simp only [this]
theorem stayS {w w1 : World} {pd pm : Nat} (hp : pd < w.heap.size) (hne : pd ≠ pm) (v : Value) (hg : Chg (fun x => x = pm) (w.setCell ⟨pd, 3, none⟩ v) w1) : w1.cell? ⟨pd, 4, none⟩ = w.cell? ⟨pd, 4, none⟩ := by
 have e : (w.setCell ⟨pd, 3, none⟩ v).cell? ⟨pd, 4, none⟩ = w.cell? ⟨pd, 4, none⟩ := World.cell?_setCell_other w _ _ _ (by intro e; injection e with _ e _; omega)
 rw [← e]
 have hlt : pd < (w.setCell ⟨pd, 3, none⟩ v).heap.size := by simpa using hp
 have := hg.block pd hlt hne
 unfold World.cell?
 simp only [this]
theorem Write1_anyS (pd ps pm p3 p4 p5 i c : Nat) (D : Dk) (B : Option Addr) (l : List UInt8) (w : World) (h : IsD w pd ps pm D) (h3 : w.cell? ⟨p3, 0, none⟩ = some (.pointer (some ⟨pd, 0, none⟩))) (h4 : w.cell? ⟨p4, 0, none⟩ = some (.int .i64 (i : Int)))
  (h5 : w.cell? ⟨p5, 0, none⟩ = some (.slice B 64 c)) (hr : Rd w B l) (hl : l.length = 64) (hi : i < D.sec.length) :
  Calls Tryz.prog 61 #[.pointer (some ⟨p5, 0, none⟩), .pointer (some ⟨p3, 0, none⟩), .pointer (some ⟨p4, 0, none⟩)] w fun e w' => e = .returned (.tuple #[]) ∧ IsD w' pd ps pm { D with cache := upd D.cache i l } ∧ Chg (fun x => x = pm) w w' := by
 have hok := h.1
 obtain ⟨b, o, rfl, hbl, hcell⟩ := hr.at_ (by omega)
 have hrg : w.rangeAt b o (l.map bv) := by
  intro j v hv
  rw [List.getElem?_map] at hv
  obtain ⟨x, hx, rfl⟩ := Option.map_eq_some_iff.1 hv
  obtain ⟨hj, rfl⟩ := List.getElem?_eq_some_iff.1 hx
  exact hcell j hj
 have HL := Lh hl
 clear hcell hl hr
 have hd1 : IsD w.drew pd ps pm D := h.non (Chg.refl _ _).drew
 have k3 : w.drew.cell? ⟨p3, 0, none⟩ = some (.pointer (some ⟨pd, 0, none⟩)) := h3
 have k4 : w.drew.cell? ⟨p4, 0, none⟩ = some (.int .i64 (i : Int)) := h4
 have k5 : w.drew.cell? ⟨p5, 0, none⟩ = some (.slice (some ⟨b, o, none⟩) 64 c) := h5
 have hrg' : w.drew.rangeAt b o (l.map bv) := hrg
 have hgd : Chg (fun x => x = pm) w w.drew := (Chg.refl _ _).drew
 clear h h3 h4 h5 hrg
 go_enter Tryz.func61, Tryz.ntmps61
 go_wp2_with fail
 refine wp_region_still_tail 8 (by kernel_rfl) (by kernel_rfl) ?_
 simp only [List.take_succ_cons, List.take_zero, List.drop_succ_cons, List.drop_zero]
 change wpStill _ _ w.drew (fun a' => wpList _ _ _ _ a' w.drew) _ _
 generalize w.drew = w2 at hd1 k3 k4 k5 hrg' hgd ⊢
 obtain ⟨A2, c2, _, _, k2, _⟩ := hd1.cells
 obtain ⟨W, hrun, hmW, hgW⟩ := run_update hd1.2.choose_spec.choose_spec.2.2.1 (fun p hp => by have := (hok.keys p hp).1; have := hok.most; omega) i (by have := hok.most; omega) l
 replace hrun : (Instr.mapUpdate 38 (.map (some pm)) (.int .i64 (i : Int)) (.agg (secA l))).run Tryz.prog w2 = .ok () W := hrun
 have HDW := Lh (hd1.setCache i hi l HL.out hmW hgW)
 have HRg := Lh hrg'
 have hgW2 : Chg (fun x => x = pm) w W := hgd.trans_same hgW
 clear hmW hgW hd1 hrg'
 have harr : (Instr.arrayAt 113 (.slice (some ⟨b, o, none⟩) 64 c)).run Tryz.prog w2 = .ok (.pointer (some ⟨b, o, none⟩)) w2 := run_arrayAt w2 _ _ 64 _ 64 c Tryz.underlying113 (Nat.le_refl _)
 iterate 7 still_step
 refine wpStill_load_sec rfl (.tmp 9) rfl b o rfl l HRg.out HL.out ?_
 refine wpStill_nil ?_
 go_wp2
 go_end0
 exact ⟨rfl, HDW.out, hgW2⟩
theorem operate_goesS (pd ps pm : Nat) (D D2 : Dk) (f : FuncId) (cap : Array Value) (w : World) (h : IsD w pd ps pm D) (hl : D.left ≠ 1) (hlm : D.left ≤ 9223372036854775807)
  (fv : Value) (hfv : fv = .func (.func 61) #[] cap ∧ f = 61 ∨ fv = .func (.func 80) #[] cap ∧ f = 80)
  (hdo : ∀ W, IsD W pd ps pm { D with left := max (D.left - 1) 0 } → Chg (fun k => k = pd) w W → Calls Tryz.prog f cap W fun e w' => e = .returned (.tuple #[]) ∧ IsD w' pd ps pm D2 ∧ Chg (fun x => x = pm) W w') :
  Calls Tryz.prog 60 #[.pointer (some ⟨pd, 0, none⟩), fv] w fun e w' => e = .returned (.int .i64 0) ∧ IsD w' pd ps pm D2 ∧ Chg (DS pd ps pm) w w' ∧ w'.cell? ⟨pd, 4, none⟩ = w.cell? ⟨pd, 4, none⟩ := by
 have hne := h.ne
 have hlt := h.lt
 obtain ⟨_, _, _, _, _, k3, _⟩ := h.cells
 have f3 := h.free 3
 have h0 := h.1.left0
 have hL := Lh (hdo _ (h.left_set (max (D.left - 1) 0) (by omega)) ((Chg.refl (fun k => k = pd) _).setCell (p := ⟨pd, 3, none⟩) (.inl rfl) _))
 clear hdo h
 obtain ⟨n, hn⟩ : ∃ n, D.left = n := ⟨_, rfl⟩
 rw [hn] at hl hlm k3 h0 hL
 clear hn
 have hd : (n == 1) = false := by simpa using hl
 have hmx : max (n - 1) 0 = max (n - 1) 0 := rfl
 rcases hfv with ⟨rfl, rfl⟩ | ⟨rfl, rfl⟩
 all_goals
  go_enter Tryz.func60, Tryz.ntmps60
  go_wp2_with fail
  refine hL.out.mono ?_
  rintro e w1 ⟨rfl, h1, hg⟩
  go_wp2
  go_ret
  exact ⟨rfl, h1, chg_field.trans_same (hg.mono (fun x e => .inr (.inr e))), stayS hlt.1 hne.2.1 _ hg⟩
theorem Write_anyS (pd ps pm : Nat) (D : Dk) (i : Int) (B : Option Addr) (l : List UInt8) (c : Nat) (w : World) (h : IsD w pd ps pm D) (hsz : D.Sz) (hr : Rd w B l) (hBn : ∀ b o, B = some ⟨b, o, none⟩ → l ≠ [] → b ≠ pd) :
  Calls Tryz.prog 24 #[.pointer (some ⟨pd, 0, none⟩), .int .i64 i, .slice B l.length c] w fun e w' => e = .returned (.int .i64 (D.write i l).2) ∧ IsD w' pd ps pm (D.write i l).1 ∧ Chg (DS pd ps pm) w w' ∧ (w'.cell? ⟨pd, 4, none⟩ = w.cell? ⟨pd, 4, none⟩ ∨ (D.write i l).1.stay = []) := by
 have hlt := h.lt
 -- the boxes
 have hb0 : ∀ o o' : Obj, (((w.alloc (.cells #[.pointer (some ⟨pd, 0, none⟩)] 33)).alloc o).alloc o').heap[w.heap.size]? = some (.cells #[.pointer (some ⟨pd, 0, none⟩)] 33 (0, 0)) := fun o o' => by
  rw [Below.heap_alloc _ o' _ (by simp; omega)]; exact heap_alloc2_old w _ o
 obtain ⟨W0, hW0⟩ : ∃ W0, ((w.alloc (.cells #[.pointer (some ⟨pd, 0, none⟩)] 33)).alloc (.cells #[.int .i64 i] 3)).alloc (.cells #[.slice B l.length c] 29) = W0 := ⟨_, rfl⟩
 have hg0 : Chg Non w W0 := by rw [← hW0]; exact (((Chg.refl _ _).alloc _).alloc _).alloc _
 have hs0 : W0.heap.size = w.heap.size + 3 := by rw [← hW0]; simp
 have x0 : W0.cell? ⟨w.heap.size, 0, none⟩ = some (.pointer (some ⟨pd, 0, none⟩)) := by rw [← hW0, cell_of_row _ _ _ _ _ _ (hb0 _ _)]; rfl
 have x1 : W0.cell? ⟨w.heap.size + 1, 0, none⟩ = some (.int .i64 i) := by
  rw [← hW0, cell_of_row _ _ _ #[.int .i64 i] 3 (0, 0) (by rw [Below.heap_alloc _ _ _ (by simp)]; exact heap_alloc2_new w _ _)]; rfl
 have x2 : W0.cell? ⟨w.heap.size + 1 + 1, 0, none⟩ = some (.slice B l.length c) := by
  rw [← hW0, cell_of_row _ _ _ #[.slice B l.length c] 29 (0, 0) (by
    have := heap_alloc_new ((w.alloc (.cells #[.pointer (some ⟨pd, 0, none⟩)] 33)).alloc (.cells #[.int .i64 i] 3)) (.cells #[.slice B l.length c] 29)
    simpa using this)]
  rfl
 have h0 := h.non hg0
 have hr0 := hr.non hg0
 have hrd := ready_ok pd ps pm D W0 h0
 have hhas := has_ok pd ps pm D i W0 h0
 have HW0 := Lh hW0
 clear hW0 hb0 h hr
 unfold Dk.write
 cases hup : D.up with
 | false =>
  have hr1 : D.ready = 60 := by unfold Dk.ready; rw [hup]; rfl
  rw [hr1] at hrd
  have HR := Lh hrd
  have H0 := Lh h0
  clear hrd hhas hr1 h0 hup
  simp only [if_true]
  go_enter Tryz.func24, Tryz.ntmps24
  go_wp2_with fail
  rw [HW0.out]
  refine HR.out.mono ?_
  rintro e w' ⟨rfl, rfl⟩
  go_wp2
  go_ret
  exact ⟨rfl, H0.out, hg0.of_non, .inl (stay0 hlt.1 hg0)⟩
 | true =>
  have hr1 : D.ready = 0 := by unfold Dk.ready; rw [hup]; rfl
  rw [hr1] at hrd
  have HR := Lh hrd
  have H0 := Lh h0
  clear hrd hr1 h0 hup
  simp only [Bool.true_eq_false, if_false]
  by_cases hin : 0 ≤ i ∧ i < D.sec.length
  ·rw [decide_eq_true hin] at hhas
   have HH := Lh hhas
   simp only [hin, and_self, not_true_eq_false, if_false]
   clear hhas
   by_cases h64 : l.length = 64
   ·rw [if_neg (show ¬ l.length ≠ 64 from fun h => h h64)]
    have hl64 : ((l.length : Int) != 64) = false := by simp; omega
    obtain ⟨k, rfl⟩ : ∃ k : Nat, i = k := ⟨i.toNat, by omega⟩
    have hk : k < D.sec.length := by omega
    simp only [Int.toNat_natCast]
    have H64 := Lh h64
    clear h64 hin
    unfold Dk.operate
    by_cases hle : D.left = 1
    ·simp only [hle, if_true]
     have HO := Lh (fun fv => operate_falls pd ps pm D fv W0 H0.out hle hsz.stay)
     clear hle
     go_enter Tryz.func24, Tryz.ntmps24
     go_wp2_with fail
     rw [HW0.out]
     refine HR.out.mono ?_
     rintro e w' ⟨rfl, rfl⟩
     go_wp2_with fail
     refine HH.out.mono ?_
     rintro e w' ⟨rfl, rfl⟩
     go_wp2_with fail
     refine (HO.out _).mono ?_
     rintro e w1 ⟨rfl, h1, hg1⟩
     go_wp2
     go_ret
     exact ⟨rfl, h1, hg0.non_then hg1, .inr rfl⟩
    ·simp only [hle, if_false]
     have HO := Lh (operate_goesS pd ps pm D { D with left := max (D.left - 1) 0, cache := upd D.cache k l } 61 #[.pointer (some ⟨w.heap.size + 1 + 1, 0, none⟩), .pointer (some ⟨w.heap.size, 0, none⟩), .pointer (some ⟨w.heap.size + 1, 0, none⟩)] W0 H0.out hle hsz.left
       (.func (.func 61) #[] #[.pointer (some ⟨w.heap.size + 1 + 1, 0, none⟩), .pointer (some ⟨w.heap.size, 0, none⟩), .pointer (some ⟨w.heap.size + 1, 0, none⟩)]) (.inl ⟨rfl, rfl⟩)
       (fun W hW hgW => Write1_anyS pd ps pm w.heap.size (w.heap.size + 1) (w.heap.size + 1 + 1) k c { D with left := max (D.left - 1) 0 } B l W hW (hgW.cell_some x0 (by show w.heap.size ≠ pd; omega)) (hgW.cell_some x1 (by show w.heap.size + 1 ≠ pd; omega))
         (hgW.cell_some (by rw [x2, H64.out]) (by show w.heap.size + 1 + 1 ≠ pd; omega)) (hr0.keep hgW hBn) H64.out hk))
     clear hle
     go_enter Tryz.func24, Tryz.ntmps24
     go_wp2_with fail
     rw [HW0.out]
     refine HR.out.mono ?_
     rintro e w' ⟨rfl, rfl⟩
     go_wp2_with fail
     refine HH.out.mono ?_
     rintro e w' ⟨rfl, rfl⟩
     go_wp2_with fail
     refine HO.out.mono ?_
     rintro e w1 ⟨rfl, h1, hg1, hs1⟩
     go_wp2
     go_ret
     exact ⟨rfl, h1, hg0.non_then hg1, .inl (hs1.trans (stay0 hlt.1 hg0))⟩
   ·rw [if_pos (show l.length ≠ 64 from h64)]
    have hl64 : ((l.length : Int) != 64) = true := by simp; omega
    clear h64
    go_enter Tryz.func24, Tryz.ntmps24
    go_wp2_with fail
    rw [HW0.out]
    refine HR.out.mono ?_
    rintro e w' ⟨rfl, rfl⟩
    go_wp2_with fail
    refine HH.out.mono ?_
    rintro e w' ⟨rfl, rfl⟩
    go_wp2
    go_ret
    exact ⟨rfl, H0.out, hg0.of_non, .inl (stay0 hlt.1 hg0)⟩
  ·rw [decide_eq_false hin] at hhas
   have HH := Lh hhas
   simp only [hin, not_false_eq_true, if_true]
   clear hhas
   go_enter Tryz.func24, Tryz.ntmps24
   go_wp2_with fail
   rw [HW0.out]
   refine HR.out.mono ?_
   rintro e w' ⟨rfl, rfl⟩
   go_wp2_with fail
   refine HH.out.mono ?_
   rintro e w' ⟨rfl, rfl⟩
   go_wp2
   go_ret
   exact ⟨rfl, H0.out, hg0.of_non, .inl (stay0 hlt.1 hg0)⟩
end
section
open Go.RowKit
def spoilL (b : List UInt8) (n : Int) : List UInt8 :=
 match b with
 | [] => []
 | x :: r => (x ^^^ UInt8.ofNat (n % 256).toNat) :: r
theorem spoilL_len (b : List UInt8) (n : Int) : (spoilL b n).length = b.length := by cases b <;> rfl
def SpoilP (w : World) (A : Option Addr) (b : List UInt8) (n : Int) (c : Nat) (e : Ending) (w' : World) : Prop :=
 e = .returned (.slice A b.length c) ∧ Rd w' A (spoilL b n) ∧ Chg (fun x => ∃ o, A = some ⟨x, o, none⟩ ∧ b ≠ []) w w'
theorem spoil_ok (B : Nat) (A : Option Addr) (b : List UInt8) (c : Nat) (n : Int) (w : World) (h : Own B w A b) (hb : b.length ≤ 64) :
  Calls Tryz.prog 45 #[.slice A b.length c, .int .i64 n] w (SpoilP w A b n c) := by
 cases b with
 | nil =>
  have hd : decide (((0 : Nat) : Int) > 0) = false := by decide
  simp only [List.length_nil]
  clear h
  go_enter Tryz.func45, Tryz.ntmps45
  go_wp2_with fail
  go_ret
  exact ⟨rfl, Rd.nil _ _, Chg.refl _ _⟩
 | cons x r =>
  obtain ⟨g, o, rfl, _, hc0, hf0⟩ := h 0 x rfl
  rw [Nat.add_zero] at hc0 hf0
  have hlt : g < w.heap.size := lt_of_cell hc0
  have hrd := h.rd
  have hd : decide (((x :: r).length : Int) > 0) = true := by simp
  have hst : Chg (fun k => k = g) w (w.setCell ⟨g, o, none⟩ (.int .u8 ((x ^^^ UInt8.ofNat (n % 256).toNat).toNat : Nat))) := chg_set w g o _
  have HR : Hid (Rd (w.setCell ⟨g, o, none⟩ (.int .u8 ((x ^^^ UInt8.ofNat (n % 256).toNat).toNat : Nat))) (some ⟨g, o, none⟩) (spoilL (x :: r) n)) := Lh (by
    intro i z hz
    refine ⟨g, o, rfl, ?_⟩
    cases i with
    | zero =>
      simp only [spoilL, List.getElem?_cons_zero, Option.some.injEq] at hz
      subst hz
      rw [Nat.add_zero, World.cell?_setCell_same w _ _ (by rw [hc0])]
    | succ i =>
      simp only [spoilL, List.getElem?_cons_succ] at hz
      obtain ⟨g', o', e, hc⟩ := hrd (i + 1) z (by simpa using hz)
      injection e with e
      injection e with e1 e2 _
      subst e1 e2
      rw [World.cell?_setCell_other w _ _ _ (by intro e; injection e with _ e _; omega)]
      exact hc)
  have HS := Lh hst
  clear hst hrd h hb
  go_enter Tryz.func45, Tryz.ntmps45
  go_wp2_with fail
  go_ret
  have hx : bits .xor .u8 (x.toNat : Int) (n % 256) = ((x ^^^ UInt8.ofNat (n % 256).toNat).toNat : Int) := by
   have h1 : ((UInt8.ofNat (n % 256).toNat).toNat : Int) = n % 256 := by rw [UInt8.toNat_ofNat']; omega
   have e := u8_xor_nat x.toNat (UInt8.ofNat (n % 256).toNat).toNat x.toNat_lt (UInt8.ofNat (n % 256).toNat).toNat_lt
   rw [h1] at e
   rw [e, UInt8.toNat_xor]
  rw [hx]
  exact ⟨rfl, HR.out, HS.out.mono (fun y e => ⟨o, by rw [show y = g from e], by simp⟩)⟩
def dAtI (D : Dk) (i : Int) : List UInt8 := if D.up = true ∧ 0 ≤ i ∧ i < D.sec.length then D.at_ i.toNat else []
def RdO (W0 : World) (l : List UInt8) (e : Ending) (W : World) : Prop := ∃ A c er, e = .returned (.tuple #[.slice A l.length c, er]) ∧ Own W0.heap.size W A l ∧ Chg Non W0 W
theorem rRead_out (B p q : Nat) (E : Rk) (i : Int) (w : World) (h : IsRk B p q w E) (hd : E.down = false) (hi : ¬ (0 ≤ i ∧ i < E.l.length)) :
  Calls Tryz.prog 18 #[.pointer (some ⟨p, 0, none⟩), .int .i64 i] w fun e w' => e = .returned (.tuple #[.slice none 0 0, .int .i64 61]) ∧ w = w' := by
 obtain ⟨cap, A3, c3, k0, k1, k2, k3, fp, fq, _⟩ := h.cells
 rw [hd] at k1
 clear fp fq h
 by_cases hn : i < 0
 ·have hb : decide (i < 0) = true := by rw [decide_eq_true_eq]; omega
  go_enter Tryz.func18, Tryz.ntmps18
  go_wp2_with fail
  go_ret2
  exact ⟨rfl, rfl⟩
 ·have hb : decide (i < 0) = false := by rw [decide_eq_false_iff_not]; omega
  have hb2 : decide (i ≥ (E.l.length : Int)) = true := by rw [decide_eq_true_eq]; omega
  go_enter Tryz.func18, Tryz.ntmps18
  go_wp2_with fail
  go_ret2
  exact ⟨rfl, rfl⟩
section
variable {w0 W : World} {pd ps pm p q B n : Nat} {D : Dk} {E : Rk}
theorem dAtI_len (tw : Twin n D E) (i : Int) : (dAtI D i).length ≤ 64 := by
 unfold dAtI
 split
 ·rename_i h
  rw [cat_len D tw.ok _ (by omega)]
  exact Nat.le_refl _
 ·simp
theorem hf_readO (h : Hf w0 pd ps pm p q B D E W) (tw : Twin n D E) (i : Int) :
  Calls Tryz.prog 17 #[.pointer (some ⟨pd, 0, none⟩), .int .i64 i] W (RdO W (dAtI D i)) := by
 unfold dAtI
 cases hup : D.up with
 | false =>
  rw [if_neg (by simp)]
  refine (Read_down pd ps pm D i W h.dk hup).mono ?_
  rintro e u ⟨rfl, rfl⟩
  exact ⟨none, 0, _, rfl, Own.nil _ _ _, Chg.refl _ _⟩
 | true =>
  by_cases hi : 0 ≤ i ∧ i < D.sec.length
  ·rw [if_pos ⟨rfl, hi⟩]
   obtain ⟨k, rfl⟩ : ∃ k : Nat, i = k := ⟨i.toNat, by omega⟩
   have hk : k < D.sec.length := by omega
   rw [Int.toNat_natCast]
   have hl := cat_len D tw.ok k hk
   refine (Read_any pd ps pm D k W h.dk hup hk).mono ?_
   rintro e u ⟨A, c, rfl, h1, h2, h3, h4⟩
   exact ⟨A, c, _, rfl, h3, h4⟩
  ·rw [if_neg (fun h => hi h.2)]
   refine (Read_no_sector pd ps pm D i W h.dk hup hi).mono ?_
   rintro e u ⟨rfl, rfl⟩
   exact ⟨none, 0, _, rfl, Own.nil _ _ _, Chg.refl _ _⟩
theorem hf_rreadO (h : Hf w0 pd ps pm p q B D E W) (tw : Twin n D E) (i : Int) :
  Calls Tryz.prog 18 #[.pointer (some ⟨p, 0, none⟩), .int .i64 i] W (RdO W (dAtI D i)) := by
 have hup := tw.same.up
 have hlen := tw.same.len
 unfold dAtI
 cases hd : E.down with
 | true =>
  rw [hd] at hup
  rw [if_neg (by rw [hup]; simp)]
  refine (rRead_down B p q E i W h.rk hd).mono ?_
  rintro e u ⟨rfl, rfl⟩
  exact ⟨none, 0, _, rfl, Own.nil _ _ _, Chg.refl _ _⟩
 | false =>
  rw [hd] at hup
  by_cases hi : 0 ≤ i ∧ i < D.sec.length
  ·rw [if_pos ⟨by rw [hup]; rfl, hi⟩]
   obtain ⟨k, rfl⟩ : ∃ k : Nat, i = k := ⟨i.toNat, by omega⟩
   have hk : k < E.l.length := by omega
   rw [Int.toNat_natCast, (at_rk tw.same hk).1]
   have hl := rkAt_len h.rk hk
   refine (rRead_at B p q E k W h.rk hd hk).mono ?_
   rintro e u ⟨A, c, rfl, h1, h2, h3, h4⟩
   exact ⟨A, c, _, by rw [hl], h3, h4⟩
  ·rw [if_neg (fun h => hi h.2)]
   refine (rRead_out B p q E i W h.rk hd (by omega)).mono ?_
   rintro e u ⟨rfl, rfl⟩
   exact ⟨none, 0, _, rfl, Own.nil _ _ _, Chg.refl _ _⟩
end
theorem ok_start {D : Dk} (h : D.Ok) : D.start.1.Ok := by
 unfold Dk.start
 split
 ·exact h
 ·exact ⟨h.secs, h.keys, h.nodup, h.most, h.left0⟩
theorem ok_crash {D : Dk} (h : D.Ok) (b : List UInt8) : (D.crash b).1.Ok := by
 unfold Dk.crash
 split
 ·exact h
 ·exact ok_fall h _
theorem ok_arm {D : Dk} (h : D.Ok) (n : Int) (b : List UInt8) : (D.arm n b).1.Ok := by
 unfold Dk.arm
 split
 ·exact h
 split
 ·exact h
 ·exact ⟨h.secs, h.keys, h.nodup, h.most, by show 0 ≤ n; omega⟩
theorem twin_crash {n : Nat} {D : Dk} {E : Rk} (h : Twin n D E) (b : List UInt8) : Twin n (D.crash b).1 (E.crash b).1 ∧ (D.crash b).2 = (E.crash b).2 :=
 ⟨⟨ok_crash h.ok b, sz_crash h.sz b, (crash_same h.ok h.same b).1, by rw [rlen_crash]; exact h.len⟩, (crash_same h.ok h.same b).2⟩
theorem twin_start {n : Nat} {D : Dk} {E : Rk} (h : Twin n D E) : Twin n D.start.1 E.start.1 ∧ D.start.2 = E.start.2 :=
 ⟨⟨ok_start h.ok, sz_start h.sz, (start_same h.same).1, by rw [rlen_start]; exact h.len⟩, (start_same h.same).2⟩
theorem twin_arm {n : Nat} {D : Dk} {E : Rk} (h : Twin n D E) (i : Int) (b : List UInt8) (hi : i ≤ 9223372036854775807) (hb : b.length ≤ 140737488351232) : Twin n (D.arm i b).1 (E.arm i b).1 ∧ (D.arm i b).2 = (E.arm i b).2 :=
 ⟨⟨ok_arm h.ok i b, sz_arm h.sz i b hi hb, (arm_same h.same i b).1, by rw [rlen_arm]; exact h.len⟩, (arm_same h.same i b).2⟩
theorem act_box (a : Ac) (vb vd : Value) (A : Option Addr) (c : Nat) (w : World) (S : Nat → Prop) (hS : ∀ k, S k → k < w.heap.size) (hh : a.hash.length = 32) :
  ∃ Y : Array Value, (acL a vb vd (.slice A a.b.length c)).toArray = Y ∧ Y.size = 39 ∧ Y[0]? = some (.int .i64 a.kind) ∧ Y[1]? = some (.int .i64 a.n) ∧ Y[2]? = some (.int .i64 a.sec) ∧ Y[38]? = some (.slice A a.b.length c) ∧
   (∀ W, Chg S (w.alloc (.cells Y 31)) W → W.heap[w.heap.size]? = some (.cells Y 31 (0, 0))) ∧
   (∀ W : World, W.heap[w.heap.size]? = some (.cells Y 31 (0, 0)) → W.rangeAt w.heap.size 3 (tagA a.hash).toList) ∧
   (∀ W : World, W.heap[w.heap.size]? = some (.cells Y 31 (0, 0)) → W.rangeAt w.heap.size 35 [Value.int .i64 a.s.frames, vb, vd]) := by
 refine ⟨_, rfl, by rw [List.size_toArray]; exact acL_len a vb vd _ hh, rfl, rfl, rfl, by rw [List.getElem?_toArray]; exact (acL_at a vb vd _ hh).2.2.2, fun W hg => ?_, fun W hw j v hv => ?_, fun W hw j v hv => ?_⟩
 ·refine (hg.block _ (by simp) (fun e => ?_)).trans (heap_alloc_new _ _)
  have := hS _ e
  omega
 ·rw [cell_of_row _ _ _ _ _ _ hw, List.getElem?_toArray]
  exact acL_tag a vb vd _ j v hv
 ·rw [cell_of_row _ _ _ _ _ _ hw, List.getElem?_toArray]
  obtain ⟨e1, e2, e3, _⟩ := acL_at a vb vd (.slice A a.b.length c) hh
  match j, hv with
  | 0, hv => simp only [List.getElem?_cons_zero, Option.some.injEq] at hv; subst hv; exact e1
  | 1, hv => simp only [List.getElem?_cons_succ, List.getElem?_cons_zero, Option.some.injEq] at hv; subst hv; exact e2
  | 2, hv => simp only [List.getElem?_cons_succ, List.getElem?_cons_zero, Option.some.injEq] at hv; subst hv; exact e3
  | n + 3, hv => simp at hv
def OneP (w0 : World) (pd ps pm p q B : Nat) (e : Ending) (W : World) : Prop :=
 e = .returned (.bool true) ∧ ∃ D E, Hf w0 pd ps pm p q B D E W ∧ Twin 323 D E
theorem one_put (I : Nat → Prop) (w0 w : World) (pd ps pm p q B : Nat) (D : Dk) (E : Rk) (a : Ac) (vb vd : Value) (A : Option Addr) (c : Nat) (h : Hf w0 pd ps pm p q B D E w) (tw : Twin 323 D E) (hh : a.hash.length = 32) (hi : I64 a.kind ∧ I64 a.n ∧ I64 a.sec) (hst : StaV I w0 a.s vb vd) (hI : ∀ b, I b → b < w0.heap.size) (hb : Rd w0 A a.b) (hbl : a.b.length ≤ 140737488351232) (hk : a.kind = 0 ∨ a.kind = 1 ∨ a.kind = 2) :
  Calls Tryz.prog 13 #[.pointer (some ⟨pd, 0, none⟩), .pointer (some ⟨p, 0, none⟩), .agg (acL a vb vd (.slice A a.b.length c)).toArray] w (OneP w0 pd ps pm p q B) := by
 obtain ⟨Y, hY, hys, y0, y1, y2, y38, hbx, hrn, hrq⟩ := act_box a vb vd A c w (BS pd ps pm p q) h.ltd hh
 rw [hY]
 have HYS := Lh hys
 have HBox := Lh hbx
 have HRng := Lh hrn
 have HRnq := Lh hrq
 have HXS := Lh (tagA_size a.hash hh)
 have HH := Lh (h.non ((Chg.refl Non w).alloc (.cells Y 31)))
 have HT := Lh tw
 have HBR := Lh hb
 have HLT := Lh h.ltd
 have HSt := Lh (And.intro hst (And.intro hI hh))
 have HBl := Lh hbl
 have HB0 := Lh (show (w.alloc (.cells Y 31)).heap[w.heap.size]? = some (.cells Y 31 (0, 0)) from heap_alloc_new _ _)
 clear hY hys hbx hrn hrq h tw hb hst hI hh
 obtain ⟨kd, kn, ks, ha, st, bt⟩ := a
 simp only at y0 y1 y2 y38 HRng HRnq HXS HBR HSt HBl hi hbl ⊢
 have htw := HT.out.putR kn ha st
 have HD := Lh (fun W (hg : Hf w0 pd ps pm p q B D E W) => hf_dput25 I hg HT.out kn ha st vb vd HSt.out.1 HSt.out.2.1 HSt.out.2.2 hi.2.1)
 obtain ⟨⟨D', v⟩, hD'⟩ : ∃ x, kPutR D kn ha st = x := ⟨_, rfl⟩
 obtain ⟨⟨E', v'⟩, hE'⟩ : ∃ x, rPutR E kn ha st = x := ⟨_, rfl⟩
 have HE := Lh (fun W (hg : Hf w0 pd ps pm p q B D' E W) => hf_rput25 I hg HT.out.rsz kn ha st vb vd HSt.out.1 HSt.out.2.1 HSt.out.2.2 hi.2.1)
 simp only [hD'] at HD htw
 simp only [hE'] at HE htw
 obtain ⟨htw, rfl⟩ := htw
 have HS := Lh htw
 clear hD' hE' htw
 obtain ⟨X, hX⟩ : ∃ X, tagA ha = X := ⟨_, rfl⟩
 simp only [hX] at HRng HXS HD HE
 simp only at hk
 clear hX
 rcases hk with rfl | rfl | rfl
 ·skip
  go_enter Tryz.func13, Tryz.ntmps13
  go_wp2_with (first
    | (refine sel (some 27) (.load 28 (.tmp 26)) ?_; refine wpList_loadW (some 27) 28 (.tmp 26) w.heap.size 3 X _ rfl rfl (by kernel_rfl) (by kernel_rfl) (HRng.out _ HB0.out) Tryz.underlying28 rfl (by rw [HXS.out]; kernel_rfl) ?_)
    | (refine sel (some 29) (.load 25 (.tmp 28)) ?_; refine wpList_loadW (some 29) 25 (.tmp 28) w.heap.size 35 #[.int .i64 st.frames, vb, vd] _ rfl rfl (by kernel_rfl) (by kernel_rfl) (HRnq.out _ HB0.out) Tryz.underlying25 rfl (by kernel_rfl) ?_))
  refine (HD.out _ HH.out).mono ?_
  rintro e u ⟨rfl, hH, hg⟩
  have HH1 := Lh hH
  have HG := Lh hg
  clear hH hg
  have hw := HBox.out u HG.out
  have q1 : u.cell? ⟨w.heap.size, 1, none⟩ = some (.int .i64 kn) := by rw [cell_of_row _ _ _ _ _ _ hw]; exact y1
  have q2 : u.cell? ⟨w.heap.size, 2, none⟩ = some (.int .i64 ks) := by rw [cell_of_row _ _ _ _ _ _ hw]; exact y2
  have q38 : u.cell? ⟨w.heap.size, 38, none⟩ = some (.slice A bt.length c) := by rw [cell_of_row _ _ _ _ _ _ hw]; exact y38
  have hlu := blk_lt hw
  have HW := Lh hw
  clear hw
  go_wp2_with (first
    | (refine sel (some 36) (.load 28 (.tmp 35)) ?_; refine wpList_loadW (some 36) 28 (.tmp 35) w.heap.size 3 X _ rfl rfl (by kernel_rfl) (by kernel_rfl) (HRng.out _ HW.out) Tryz.underlying28 rfl (by rw [HXS.out]; kernel_rfl) ?_)
    | (refine sel (some 38) (.load 25 (.tmp 37)) ?_; refine wpList_loadW (some 38) 25 (.tmp 37) w.heap.size 35 #[.int .i64 st.frames, vb, vd] _ rfl rfl (by kernel_rfl) (by kernel_rfl) (HRnq.out _ HW.out) Tryz.underlying25 rfl (by kernel_rfl) ?_))
  refine (HE.out _ HH1.out).mono ?_
  rintro e u2 ⟨rfl, hH, hg⟩
  have HH2 := Lh hH
  clear hH hg
  go_wp2_with fail
  go_ret
  exact ⟨rfl, D', E', HH2.out, HS.out⟩
 ·skip
  go_enter Tryz.func13, Tryz.ntmps13
  go_wp2_with (first
    | (refine sel (some 27) (.load 28 (.tmp 26)) ?_; refine wpList_loadW (some 27) 28 (.tmp 26) w.heap.size 3 X _ rfl rfl (by kernel_rfl) (by kernel_rfl) (HRng.out _ HB0.out) Tryz.underlying28 rfl (by rw [HXS.out]; kernel_rfl) ?_)
    | (refine sel (some 29) (.load 25 (.tmp 28)) ?_; refine wpList_loadW (some 29) 25 (.tmp 28) w.heap.size 35 #[.int .i64 st.frames, vb, vd] _ rfl rfl (by kernel_rfl) (by kernel_rfl) (HRnq.out _ HB0.out) Tryz.underlying25 rfl (by kernel_rfl) ?_))
  refine (HD.out _ HH.out).mono ?_
  rintro e u ⟨rfl, hH, hg⟩
  have HH1 := Lh hH
  have HG := Lh hg
  clear hH hg
  have hw := HBox.out u HG.out
  have q1 : u.cell? ⟨w.heap.size, 1, none⟩ = some (.int .i64 kn) := by rw [cell_of_row _ _ _ _ _ _ hw]; exact y1
  have q2 : u.cell? ⟨w.heap.size, 2, none⟩ = some (.int .i64 ks) := by rw [cell_of_row _ _ _ _ _ _ hw]; exact y2
  have q38 : u.cell? ⟨w.heap.size, 38, none⟩ = some (.slice A bt.length c) := by rw [cell_of_row _ _ _ _ _ _ hw]; exact y38
  have hlu := blk_lt hw
  have HW := Lh hw
  clear hw
  go_wp2_with (first
    | (refine sel (some 36) (.load 28 (.tmp 35)) ?_; refine wpList_loadW (some 36) 28 (.tmp 35) w.heap.size 3 X _ rfl rfl (by kernel_rfl) (by kernel_rfl) (HRng.out _ HW.out) Tryz.underlying28 rfl (by rw [HXS.out]; kernel_rfl) ?_)
    | (refine sel (some 38) (.load 25 (.tmp 37)) ?_; refine wpList_loadW (some 38) 25 (.tmp 37) w.heap.size 35 #[.int .i64 st.frames, vb, vd] _ rfl rfl (by kernel_rfl) (by kernel_rfl) (HRnq.out _ HW.out) Tryz.underlying25 rfl (by kernel_rfl) ?_))
  refine (HE.out _ HH1.out).mono ?_
  rintro e u2 ⟨rfl, hH, hg⟩
  have HH2 := Lh hH
  clear hH hg
  go_wp2_with fail
  go_ret
  exact ⟨rfl, D', E', HH2.out, HS.out⟩
 ·skip
  go_enter Tryz.func13, Tryz.ntmps13
  go_wp2_with (first
    | (refine sel (some 27) (.load 28 (.tmp 26)) ?_; refine wpList_loadW (some 27) 28 (.tmp 26) w.heap.size 3 X _ rfl rfl (by kernel_rfl) (by kernel_rfl) (HRng.out _ HB0.out) Tryz.underlying28 rfl (by rw [HXS.out]; kernel_rfl) ?_)
    | (refine sel (some 29) (.load 25 (.tmp 28)) ?_; refine wpList_loadW (some 29) 25 (.tmp 28) w.heap.size 35 #[.int .i64 st.frames, vb, vd] _ rfl rfl (by kernel_rfl) (by kernel_rfl) (HRnq.out _ HB0.out) Tryz.underlying25 rfl (by kernel_rfl) ?_))
  refine (HD.out _ HH.out).mono ?_
  rintro e u ⟨rfl, hH, hg⟩
  have HH1 := Lh hH
  have HG := Lh hg
  clear hH hg
  have hw := HBox.out u HG.out
  have q1 : u.cell? ⟨w.heap.size, 1, none⟩ = some (.int .i64 kn) := by rw [cell_of_row _ _ _ _ _ _ hw]; exact y1
  have q2 : u.cell? ⟨w.heap.size, 2, none⟩ = some (.int .i64 ks) := by rw [cell_of_row _ _ _ _ _ _ hw]; exact y2
  have q38 : u.cell? ⟨w.heap.size, 38, none⟩ = some (.slice A bt.length c) := by rw [cell_of_row _ _ _ _ _ _ hw]; exact y38
  have hlu := blk_lt hw
  have HW := Lh hw
  clear hw
  go_wp2_with (first
    | (refine sel (some 36) (.load 28 (.tmp 35)) ?_; refine wpList_loadW (some 36) 28 (.tmp 35) w.heap.size 3 X _ rfl rfl (by kernel_rfl) (by kernel_rfl) (HRng.out _ HW.out) Tryz.underlying28 rfl (by rw [HXS.out]; kernel_rfl) ?_)
    | (refine sel (some 38) (.load 25 (.tmp 37)) ?_; refine wpList_loadW (some 38) 25 (.tmp 37) w.heap.size 35 #[.int .i64 st.frames, vb, vd] _ rfl rfl (by kernel_rfl) (by kernel_rfl) (HRnq.out _ HW.out) Tryz.underlying25 rfl (by kernel_rfl) ?_))
  refine (HE.out _ HH1.out).mono ?_
  rintro e u2 ⟨rfl, hH, hg⟩
  have HH2 := Lh hH
  clear hH hg
  go_wp2_with fail
  go_ret
  exact ⟨rfl, D', E', HH2.out, HS.out⟩
theorem one_crash (I : Nat → Prop) (w0 w : World) (pd ps pm p q B : Nat) (D : Dk) (E : Rk) (a : Ac) (vb vd : Value) (A : Option Addr) (c : Nat) (h : Hf w0 pd ps pm p q B D E w) (tw : Twin 323 D E) (hh : a.hash.length = 32) (hi : I64 a.kind ∧ I64 a.n ∧ I64 a.sec) (hst : StaV I w0 a.s vb vd) (hI : ∀ b, I b → b < w0.heap.size) (hb : Rd w0 A a.b) (hbl : a.b.length ≤ 140737488351232) (hk : a.kind = 3) :
  Calls Tryz.prog 13 #[.pointer (some ⟨pd, 0, none⟩), .pointer (some ⟨p, 0, none⟩), .agg (acL a vb vd (.slice A a.b.length c)).toArray] w (OneP w0 pd ps pm p q B) := by
 obtain ⟨Y, hY, hys, y0, y1, y2, y38, hbx, hrn, hrq⟩ := act_box a vb vd A c w (BS pd ps pm p q) h.ltd hh
 rw [hY]
 have HYS := Lh hys
 have HBox := Lh hbx
 have HRng := Lh hrn
 have HRnq := Lh hrq
 have HXS := Lh (tagA_size a.hash hh)
 have HH := Lh (h.non ((Chg.refl Non w).alloc (.cells Y 31)))
 have HT := Lh tw
 have HBR := Lh hb
 have HLT := Lh h.ltd
 have HSt := Lh (And.intro hst (And.intro hI hh))
 have HBl := Lh hbl
 have HB0 := Lh (show (w.alloc (.cells Y 31)).heap[w.heap.size]? = some (.cells Y 31 (0, 0)) from heap_alloc_new _ _)
 clear hY hys hbx hrn hrq h tw hb hst hI hh
 obtain ⟨kd, kn, ks, ha, st, bt⟩ := a
 simp only at y0 y1 y2 y38 HRng HRnq HXS HBR HSt HBl hi hbl ⊢
 have htw := twin_crash HT.out bt
 have HD := Lh (fun W (hg : Hf w0 pd ps pm p q B D E W) => hf_dcrash hg A bt c HBR.out HBl.out)
 obtain ⟨⟨D', v⟩, hD'⟩ : ∃ x, D.crash bt = x := ⟨_, rfl⟩
 obtain ⟨⟨E', v'⟩, hE'⟩ : ∃ x, E.crash bt = x := ⟨_, rfl⟩
 have HE := Lh (fun W (hg : Hf w0 pd ps pm p q B D' E W) => hf_rcrash hg HT.out.rsz A bt c HBR.out HBl.out)
 simp only [hD'] at HD htw
 simp only [hE'] at HE htw
 obtain ⟨htw, rfl⟩ := htw
 have HS := Lh htw
 clear hD' hE' htw
 simp only at hk
 subst hk
 go_enter Tryz.func13, Tryz.ntmps13
 go_wp2_with fail
 refine (HD.out _ HH.out).mono ?_
 rintro e u ⟨rfl, hH, hg⟩
 have HH1 := Lh hH
 have HG := Lh hg
 clear hH hg
 have hw := HBox.out u HG.out
 have q1 : u.cell? ⟨w.heap.size, 1, none⟩ = some (.int .i64 kn) := by rw [cell_of_row _ _ _ _ _ _ hw]; exact y1
 have q2 : u.cell? ⟨w.heap.size, 2, none⟩ = some (.int .i64 ks) := by rw [cell_of_row _ _ _ _ _ _ hw]; exact y2
 have q38 : u.cell? ⟨w.heap.size, 38, none⟩ = some (.slice A bt.length c) := by rw [cell_of_row _ _ _ _ _ _ hw]; exact y38
 have hlu := blk_lt hw
 have HW := Lh hw
 clear hw
 go_wp2_with fail
 refine (HE.out _ HH1.out).mono ?_
 rintro e u2 ⟨rfl, hH, hg⟩
 have HH2 := Lh hH
 clear hH hg
 go_wp2_with fail
 go_ret
 exact ⟨rfl, D', E', HH2.out, HS.out⟩
theorem one_start (I : Nat → Prop) (w0 w : World) (pd ps pm p q B : Nat) (D : Dk) (E : Rk) (a : Ac) (vb vd : Value) (A : Option Addr) (c : Nat) (h : Hf w0 pd ps pm p q B D E w) (tw : Twin 323 D E) (hh : a.hash.length = 32) (hi : I64 a.kind ∧ I64 a.n ∧ I64 a.sec) (hst : StaV I w0 a.s vb vd) (hI : ∀ b, I b → b < w0.heap.size) (hb : Rd w0 A a.b) (hbl : a.b.length ≤ 140737488351232) (hk : a.kind = 4 ∨ a.kind = 5) :
  Calls Tryz.prog 13 #[.pointer (some ⟨pd, 0, none⟩), .pointer (some ⟨p, 0, none⟩), .agg (acL a vb vd (.slice A a.b.length c)).toArray] w (OneP w0 pd ps pm p q B) := by
 obtain ⟨Y, hY, hys, y0, y1, y2, y38, hbx, hrn, hrq⟩ := act_box a vb vd A c w (BS pd ps pm p q) h.ltd hh
 rw [hY]
 have HYS := Lh hys
 have HBox := Lh hbx
 have HRng := Lh hrn
 have HRnq := Lh hrq
 have HXS := Lh (tagA_size a.hash hh)
 have HH := Lh (h.non ((Chg.refl Non w).alloc (.cells Y 31)))
 have HT := Lh tw
 have HBR := Lh hb
 have HLT := Lh h.ltd
 have HSt := Lh (And.intro hst (And.intro hI hh))
 have HBl := Lh hbl
 have HB0 := Lh (show (w.alloc (.cells Y 31)).heap[w.heap.size]? = some (.cells Y 31 (0, 0)) from heap_alloc_new _ _)
 clear hY hys hbx hrn hrq h tw hb hst hI hh
 obtain ⟨kd, kn, ks, ha, st, bt⟩ := a
 simp only at y0 y1 y2 y38 HRng HRnq HXS HBR HSt HBl hi hbl ⊢
 have htw := twin_start HT.out
 have HD := Lh (fun W (hg : Hf w0 pd ps pm p q B D E W) => hf_dstart hg)
 obtain ⟨⟨D', v⟩, hD'⟩ : ∃ x, D.start = x := ⟨_, rfl⟩
 obtain ⟨⟨E', v'⟩, hE'⟩ : ∃ x, E.start = x := ⟨_, rfl⟩
 have HE := Lh (fun W (hg : Hf w0 pd ps pm p q B D' E W) => hf_rstart hg)
 simp only [hD'] at HD htw
 simp only [hE'] at HE htw
 obtain ⟨htw, rfl⟩ := htw
 have HS := Lh htw
 clear hD' hE' htw
 simp only at hk
 rcases hk with rfl | rfl
 ·skip
  go_enter Tryz.func13, Tryz.ntmps13
  go_wp2_with fail
  refine (HD.out _ HH.out).mono ?_
  rintro e u ⟨rfl, hH, hg⟩
  have HH1 := Lh hH
  have HG := Lh hg
  clear hH hg
  have hw := HBox.out u HG.out
  have q1 : u.cell? ⟨w.heap.size, 1, none⟩ = some (.int .i64 kn) := by rw [cell_of_row _ _ _ _ _ _ hw]; exact y1
  have q2 : u.cell? ⟨w.heap.size, 2, none⟩ = some (.int .i64 ks) := by rw [cell_of_row _ _ _ _ _ _ hw]; exact y2
  have q38 : u.cell? ⟨w.heap.size, 38, none⟩ = some (.slice A bt.length c) := by rw [cell_of_row _ _ _ _ _ _ hw]; exact y38
  have hlu := blk_lt hw
  have HW := Lh hw
  clear hw
  go_wp2_with fail
  refine (HE.out _ HH1.out).mono ?_
  rintro e u2 ⟨rfl, hH, hg⟩
  have HH2 := Lh hH
  clear hH hg
  go_wp2_with fail
  go_ret
  exact ⟨rfl, D', E', HH2.out, HS.out⟩
 ·skip
  go_enter Tryz.func13, Tryz.ntmps13
  go_wp2_with fail
  refine (HD.out _ HH.out).mono ?_
  rintro e u ⟨rfl, hH, hg⟩
  have HH1 := Lh hH
  have HG := Lh hg
  clear hH hg
  have hw := HBox.out u HG.out
  have q1 : u.cell? ⟨w.heap.size, 1, none⟩ = some (.int .i64 kn) := by rw [cell_of_row _ _ _ _ _ _ hw]; exact y1
  have q2 : u.cell? ⟨w.heap.size, 2, none⟩ = some (.int .i64 ks) := by rw [cell_of_row _ _ _ _ _ _ hw]; exact y2
  have q38 : u.cell? ⟨w.heap.size, 38, none⟩ = some (.slice A bt.length c) := by rw [cell_of_row _ _ _ _ _ _ hw]; exact y38
  have hlu := blk_lt hw
  have HW := Lh hw
  clear hw
  go_wp2_with fail
  refine (HE.out _ HH1.out).mono ?_
  rintro e u2 ⟨rfl, hH, hg⟩
  have HH2 := Lh hH
  clear hH hg
  go_wp2_with fail
  go_ret
  exact ⟨rfl, D', E', HH2.out, HS.out⟩
theorem one_arm (I : Nat → Prop) (w0 w : World) (pd ps pm p q B : Nat) (D : Dk) (E : Rk) (a : Ac) (vb vd : Value) (A : Option Addr) (c : Nat) (h : Hf w0 pd ps pm p q B D E w) (tw : Twin 323 D E) (hh : a.hash.length = 32) (hi : I64 a.kind ∧ I64 a.n ∧ I64 a.sec) (hst : StaV I w0 a.s vb vd) (hI : ∀ b, I b → b < w0.heap.size) (hb : Rd w0 A a.b) (hbl : a.b.length ≤ 140737488351232) (hk : a.kind = 6) :
  Calls Tryz.prog 13 #[.pointer (some ⟨pd, 0, none⟩), .pointer (some ⟨p, 0, none⟩), .agg (acL a vb vd (.slice A a.b.length c)).toArray] w (OneP w0 pd ps pm p q B) := by
 obtain ⟨Y, hY, hys, y0, y1, y2, y38, hbx, hrn, hrq⟩ := act_box a vb vd A c w (BS pd ps pm p q) h.ltd hh
 rw [hY]
 have HYS := Lh hys
 have HBox := Lh hbx
 have HRng := Lh hrn
 have HRnq := Lh hrq
 have HXS := Lh (tagA_size a.hash hh)
 have HH := Lh (h.non ((Chg.refl Non w).alloc (.cells Y 31)))
 have HT := Lh tw
 have HBR := Lh hb
 have HLT := Lh h.ltd
 have HSt := Lh (And.intro hst (And.intro hI hh))
 have HBl := Lh hbl
 have HB0 := Lh (show (w.alloc (.cells Y 31)).heap[w.heap.size]? = some (.cells Y 31 (0, 0)) from heap_alloc_new _ _)
 clear hY hys hbx hrn hrq h tw hb hst hI hh
 obtain ⟨kd, kn, ks, ha, st, bt⟩ := a
 simp only at y0 y1 y2 y38 HRng HRnq HXS HBR HSt HBl hi hbl ⊢
 have htw := twin_arm HT.out kn bt hi.2.1.2 HBl.out
 have HD := Lh (fun W (hg : Hf w0 pd ps pm p q B D E W) => hf_darm hg kn A bt c HBR.out HBl.out)
 obtain ⟨⟨D', v⟩, hD'⟩ : ∃ x, D.arm kn bt = x := ⟨_, rfl⟩
 obtain ⟨⟨E', v'⟩, hE'⟩ : ∃ x, E.arm kn bt = x := ⟨_, rfl⟩
 have HE := Lh (fun W (hg : Hf w0 pd ps pm p q B D' E W) => hf_rarm hg kn A bt c HBR.out HBl.out)
 simp only [hD'] at HD htw
 simp only [hE'] at HE htw
 obtain ⟨htw, rfl⟩ := htw
 have HS := Lh htw
 clear hD' hE' htw
 simp only at hk
 subst hk
 go_enter Tryz.func13, Tryz.ntmps13
 go_wp2_with fail
 refine (HD.out _ HH.out).mono ?_
 rintro e u ⟨rfl, hH, hg⟩
 have HH1 := Lh hH
 have HG := Lh hg
 clear hH hg
 have hw := HBox.out u HG.out
 have q1 : u.cell? ⟨w.heap.size, 1, none⟩ = some (.int .i64 kn) := by rw [cell_of_row _ _ _ _ _ _ hw]; exact y1
 have q2 : u.cell? ⟨w.heap.size, 2, none⟩ = some (.int .i64 ks) := by rw [cell_of_row _ _ _ _ _ _ hw]; exact y2
 have q38 : u.cell? ⟨w.heap.size, 38, none⟩ = some (.slice A bt.length c) := by rw [cell_of_row _ _ _ _ _ _ hw]; exact y38
 have hlu := blk_lt hw
 have HW := Lh hw
 clear hw
 go_wp2_with fail
 refine (HE.out _ HH1.out).mono ?_
 rintro e u2 ⟨rfl, hH, hg⟩
 have HH2 := Lh hH
 clear hH hg
 go_wp2_with fail
 go_ret
 exact ⟨rfl, D', E', HH2.out, HS.out⟩
theorem one_flush (I : Nat → Prop) (w0 w : World) (pd ps pm p q B : Nat) (D : Dk) (E : Rk) (a : Ac) (vb vd : Value) (A : Option Addr) (c : Nat) (h : Hf w0 pd ps pm p q B D E w) (tw : Twin 323 D E) (hh : a.hash.length = 32) (hi : I64 a.kind ∧ I64 a.n ∧ I64 a.sec) (hst : StaV I w0 a.s vb vd) (hI : ∀ b, I b → b < w0.heap.size) (hb : Rd w0 A a.b) (hbl : a.b.length ≤ 140737488351232) (hk : a.kind = 8) :
  Calls Tryz.prog 13 #[.pointer (some ⟨pd, 0, none⟩), .pointer (some ⟨p, 0, none⟩), .agg (acL a vb vd (.slice A a.b.length c)).toArray] w (OneP w0 pd ps pm p q B) := by
 obtain ⟨Y, hY, hys, y0, y1, y2, y38, hbx, hrn, hrq⟩ := act_box a vb vd A c w (BS pd ps pm p q) h.ltd hh
 rw [hY]
 have HYS := Lh hys
 have HBox := Lh hbx
 have HRng := Lh hrn
 have HRnq := Lh hrq
 have HXS := Lh (tagA_size a.hash hh)
 have HH := Lh (h.non ((Chg.refl Non w).alloc (.cells Y 31)))
 have HT := Lh tw
 have HBR := Lh hb
 have HLT := Lh h.ltd
 have HSt := Lh (And.intro hst (And.intro hI hh))
 have HBl := Lh hbl
 have HB0 := Lh (show (w.alloc (.cells Y 31)).heap[w.heap.size]? = some (.cells Y 31 (0, 0)) from heap_alloc_new _ _)
 clear hY hys hbx hrn hrq h tw hb hst hI hh
 obtain ⟨kd, kn, ks, ha, st, bt⟩ := a
 simp only at y0 y1 y2 y38 HRng HRnq HXS HBR HSt HBl hi hbl ⊢
 have htw := HT.out.flush
 have HD := Lh (fun W (hg : Hf w0 pd ps pm p q B D E W) => hf_dflush hg HT.out.sz)
 obtain ⟨⟨D', v⟩, hD'⟩ : ∃ x, D.flush = x := ⟨_, rfl⟩
 obtain ⟨⟨E', v'⟩, hE'⟩ : ∃ x, E.flush = x := ⟨_, rfl⟩
 have HE := Lh (fun W (hg : Hf w0 pd ps pm p q B D' E W) => hf_rflush hg HT.out.rsz)
 simp only [hD'] at HD htw
 simp only [hE'] at HE htw
 obtain ⟨htw, rfl⟩ := htw
 have HS := Lh htw
 clear hD' hE' htw
 simp only at hk
 subst hk
 go_enter Tryz.func13, Tryz.ntmps13
 go_wp2_with fail
 refine (HD.out _ HH.out).mono ?_
 rintro e u ⟨rfl, hH, hg⟩
 have HH1 := Lh hH
 have HG := Lh hg
 clear hH hg
 have hw := HBox.out u HG.out
 have q1 : u.cell? ⟨w.heap.size, 1, none⟩ = some (.int .i64 kn) := by rw [cell_of_row _ _ _ _ _ _ hw]; exact y1
 have q2 : u.cell? ⟨w.heap.size, 2, none⟩ = some (.int .i64 ks) := by rw [cell_of_row _ _ _ _ _ _ hw]; exact y2
 have q38 : u.cell? ⟨w.heap.size, 38, none⟩ = some (.slice A bt.length c) := by rw [cell_of_row _ _ _ _ _ _ hw]; exact y38
 have hlu := blk_lt hw
 have HW := Lh hw
 clear hw
 go_wp2_with fail
 refine (HE.out _ HH1.out).mono ?_
 rintro e u2 ⟨rfl, hH, hg⟩
 have HH2 := Lh hH
 clear hH hg
 go_wp2_with fail
 go_ret
 exact ⟨rfl, D', E', HH2.out, HS.out⟩
theorem hf_mid {w0 W1 W4 W5 : World} {pd ps pm p q B : Nat} {D D4 : Dk} {E : Rk} {S : Nat → Prop} (h1 : Hf w0 pd ps pm p q B D E W1) (h4 : IsD W4 pd ps pm D4) (hst : W4.cell? ⟨pd, 4, none⟩ = W1.cell? ⟨pd, 4, none⟩ ∨ D4.stay = []) (hg : Chg S W4 W5) (hS : ∀ x, S x → W1.heap.size ≤ x)
  (hg14 : Chg (DS pd ps pm) W1 W4) : Hf w0 pd ps pm p q B D4 E W5 := by
 have hlt := h1.dk.lt
 have h15 : Chg (DS pd ps pm) W1 W5 := hg14.then_new hg hS
 refine ⟨h4.keep hg (fun k _ hk => by have := hS k hk; omega) ?_, h1.rk.keep h15 ?_, h1.lo, h1.lt, h1.chg.then_new h15 ?_⟩
 ·rintro A c hb b o rfl hne hSb
  have hc4 : W4.cell? ⟨pd, 4, none⟩ = some (.slice (some ⟨b, o, none⟩) D4.stay.length c) := by rw [cell_of_row _ _ _ _ _ _ hb]; rfl
  rcases hst with hst | hst
  ·obtain ⟨A1, c1, _, _, _, _, k4, hrd, _⟩ := h1.dk.cells
   rw [hst, k4] at hc4
   injection hc4 with hc4
   injection hc4 with e1 e2 _
   subst e1
   have hpos : 0 < D.stay.length := by
    have : D4.stay.length ≠ 0 := fun e => hne (List.eq_nil_of_length_eq_zero e)
    omega
   obtain ⟨b', o', e, hb', _⟩ := hrd.at_ hpos
   injection e with e
   injection e with e1 _ _
   have := hS b hSb
   omega
  ·exact hne hst
 ·have h := h1.lt
  rintro x (rfl | rfl | rfl)
  ·exact h.1
  ·exact h.2.1
  ·exact h.2.2
 ·have h := h1.lo
  rintro x (rfl | rfl | rfl)
  ·exact h.1
  ·exact h.2.1
  ·exact h.2.2
theorem one_spoil (I : Nat → Prop) (w0 w : World) (pd ps pm p q B : Nat) (D : Dk) (E : Rk) (a : Ac) (vb vd : Value) (A : Option Addr) (c : Nat) (h : Hf w0 pd ps pm p q B D E w) (tw : Twin 323 D E) (hh : a.hash.length = 32) (hi : I64 a.kind ∧ I64 a.n ∧ I64 a.sec) (hst : StaV I w0 a.s vb vd) (hI : ∀ b, I b → b < w0.heap.size) (hb : Rd w0 A a.b) (hbl : a.b.length ≤ 140737488351232) (hk : a.kind = 7) :
  Calls Tryz.prog 13 #[.pointer (some ⟨pd, 0, none⟩), .pointer (some ⟨p, 0, none⟩), .agg (acL a vb vd (.slice A a.b.length c)).toArray] w (OneP w0 pd ps pm p q B) := by
 obtain ⟨Y, hY, hys, y0, y1, y2, y38, hbx, hrn, hrq⟩ := act_box a vb vd A c w (BS pd ps pm p q) h.ltd hh
 rw [hY]
 have HYS := Lh hys
 have HBox := Lh hbx
 have HRng := Lh hrn
 have HRnq := Lh hrq
 have HXS := Lh (tagA_size a.hash hh)
 have HH := Lh (h.non ((Chg.refl Non w).alloc (.cells Y 31)))
 have HT := Lh tw
 have HBR := Lh hb
 have HLT := Lh h.ltd
 have HSt := Lh (And.intro hst (And.intro hI hh))
 have HBl := Lh hbl
 have HB0 := Lh (show (w.alloc (.cells Y 31)).heap[w.heap.size]? = some (.cells Y 31 (0, 0)) from heap_alloc_new _ _)
 clear hY hys hbx hrn hrq h tw hb hst hI hh
 obtain ⟨kd, kn, ks, ha, st, bt⟩ := a
 simp only at y0 y1 y2 y38 HRng HRnq HXS HBR HSt HBl hi hbl ⊢
 simp only at hk
 subst hk
 have hl64 := dAtI_len HT.out ks
 have HRd := Lh (fun W (hg : Hf w0 pd ps pm p q B D E W) => hf_readO hg HT.out ks)
 have HRr := Lh (fun W (hg : Hf w0 pd ps pm p q B D E W) => hf_rreadO hg HT.out ks)
 obtain ⟨bl, hbx⟩ : ∃ x, dAtI D ks = x := ⟨_, rfl⟩
 simp only [hbx] at HRd HRr hl64
 have HSp := Lh (fun B0 A' c' W (ho : Own B0 W A' bl) => spoil_ok B0 A' bl c' kn W ho hl64)
 have hsl := spoilL_len bl kn
 unfold SpoilP at HSp
 obtain ⟨SB, hSB⟩ : ∃ x, spoilL bl kn = x := ⟨_, rfl⟩
 simp only [hSB] at HSp hsl
 have htw := HT.out.write ks SB
 have HD := Lh (fun W (hg : Hf w0 pd ps pm p q B D E W) A2 c2 (h2 : Rd W A2 SB) (h3 : ∀ x o, A2 = some ⟨x, o, none⟩ → SB ≠ [] → x ≠ pd) => Write_anyS pd ps pm D ks A2 SB c2 W hg.dk HT.out.sz h2 h3)
 obtain ⟨⟨D', v⟩, hD'⟩ : ∃ x, D.write ks SB = x := ⟨_, rfl⟩
 obtain ⟨⟨E', v'⟩, hE'⟩ : ∃ x, E.write ks SB = x := ⟨_, rfl⟩
 have HE := Lh (fun W (hg : Hf w0 pd ps pm p q B D' E W) A2 c2 (h2 : Rd W A2 SB) => hf_rwrite hg HT.out.rsz ks A2 SB c2 h2 (by omega))
 simp only [hD'] at HD htw
 simp only [hE'] at HE htw
 simp only [hsl] at HD HE
 obtain ⟨htw, rfl⟩ := htw
 have HS := Lh htw
 have HNe : Hid (SB ≠ [] → bl ≠ []) := Lh (fun h e => h (List.eq_nil_of_length_eq_zero (by rw [hsl, e]; rfl)))
 clear hD' hE' htw hbx hSB hsl
 have hszV : (w.alloc (.cells Y 31)).heap.size = w.heap.size + 1 := by simp
 have HSzV := Lh hszV
 clear hszV
 go_enter Tryz.func13, Tryz.ntmps13
 go_wp2_with fail
 refine (HRd.out _ HH.out).mono ?_
 rintro e u ⟨A1, c1, er1, rfl, ho1, hg1⟩
 have HG : Hid (Chg (BS pd ps pm p q) (w.alloc (.cells Y 31)) u) := Lh hg1.of_non
 have hw := HBox.out u HG.out
 have q1 : u.cell? ⟨w.heap.size, 1, none⟩ = some (.int .i64 kn) := by rw [cell_of_row _ _ _ _ _ _ hw]; exact y1
 have q2 : u.cell? ⟨w.heap.size, 2, none⟩ = some (.int .i64 ks) := by rw [cell_of_row _ _ _ _ _ _ hw]; exact y2
 have q38 : u.cell? ⟨w.heap.size, 38, none⟩ = some (.slice A bt.length c) := by rw [cell_of_row _ _ _ _ _ _ hw]; exact y38
 have hlu := blk_lt hw
 have HW := Lh hw
 clear hw
 have HO1 := Lh ho1
 have HN1 := Lh hg1
 clear ho1 hg1 q38
 go_wp2_with fail
 refine (HRr.out _ (HH.out.non HN1.out)).mono ?_
 rintro e u2 ⟨A2, c2, er2, rfl, ho2, hg2⟩
 replace q1 := hg2.cell_some q1 (fun e => e)
 replace q2 := hg2.cell_some q2 (fun e => e)
 have HQ1 := Lh q1
 have HQ2 := Lh q2
 have HO12 := Lh (HO1.out.non hg2)
 have HO2 := Lh ho2
 have HN2 := Lh (HN1.out.then_non hg2)
 -- A1 is new since the box, A2 since then
 have HA1 : Hid (∀ x o, A1 = some ⟨x, o, none⟩ → bl ≠ [] → w.heap.size + 1 ≤ x ∧ x < u.heap.size) := Lh (by
   rintro x o rfl hl
   have h1 := HO1.out.ge hl
   rw [HSzV.out] at h1
   obtain ⟨b', o', e, hlt', _⟩ := HO1.out.rd.at_ (List.length_pos_iff.2 hl)
   injection e with e
   injection e with e _ _
   omega)
 have HA2 : Hid (∀ x o, A2 = some ⟨x, o, none⟩ → bl ≠ [] → u.heap.size ≤ x ∧ w.heap.size + 1 ≤ x) := Lh (by
   rintro x o rfl hl
   have h1 := HO2.out.ge hl
   have h2 := HN1.out.size
   rw [HSzV.out] at h2
   exact ⟨h1, by omega⟩)
 have HL0 := Lh (show ∀ k, BS pd ps pm p q k → k < w.heap.size from HLT.out)
 clear ho2 hg2 q1 q2 HO1
 go_wp2_with fail
 obtain ⟨V, hV⟩ : ∃ V, V = u2.drew := ⟨_, rfl⟩
 have hnV : Chg Non u2 V := by rw [hV]; exact (Chg.refl Non _).drew
 have HNV := Lh hnV
 have HOV := Lh (HO12.out.non hnV)
 have qV1 := hnV.cell_some HQ1.out (fun e => e)
 have qV2 := hnV.cell_some HQ2.out (fun e => e)
 have HM1 : Hid (¬ (BS pd ps pm p q w.heap.size ∨ ∃ o, A1 = some ⟨w.heap.size, o, none⟩ ∧ bl ≠ [])) := Lh (by
   rintro (e | ⟨o, e, hl⟩)
   · have := HL0.out _ e; omega
   · have := HA1.out _ _ e hl; omega)
 have HM2 : Hid (¬ (BS pd ps pm p q w.heap.size ∨ ∃ o, A2 = some ⟨w.heap.size, o, none⟩ ∧ bl ≠ [])) := Lh (by
   rintro (e | ⟨o, e, hl⟩)
   · have := HL0.out _ e; omega
   · have := HA2.out _ _ e hl; omega)
 refine wp_region_held_drew (S := Chg (fun x => BS pd ps pm p q x ∨ ∃ o, A1 = some ⟨x, o, none⟩ ∧ bl ≠ []) V) (by kernel_rfl) (by rw [hV]; exact Chg.refl _ _) (fun hHeld => ?_)
 clear hHeld
 rw [← hV]
 clear hV hnV
 have HS0 : Hid (Chg (fun x => BS pd ps pm p q x ∨ ∃ o, A1 = some ⟨x, o, none⟩ ∧ bl ≠ []) V V) := Lh (Chg.refl _ _)
 refine hp 0 94 (.pointer (some ⟨pd, 0, none⟩)) rfl HS0.out ?_
 refine hp 1 95 (.pointer (some ⟨w.heap.size, 2, none⟩)) rfl HS0.out ?_
 refine hp 2 96 (.int .i64 ks) rfl HS0.out ?_ (he := fun W hW => by have hc := hW.cell_some qV2 HM1.out; go_simp)
 refine hp 3 97 (.slice A1 bl.length c1) rfl HS0.out ?_
 refine hp 4 98 (.pointer (some ⟨w.heap.size, 1, none⟩)) rfl HS0.out ?_
 refine hp 5 99 (.int .i64 kn) rfl HS0.out ?_ (he := fun W hW => by have hc := hW.cell_some qV1 HM1.out; go_simp)
 refine h1o 6 rfl ?_
 intro K hK
 go_simp
 go_at_call 45
 refine (HSp.out _ A1 c1 V HOV.out).mono ?_
 rintro e u3 ⟨rfl, hr3, hg3⟩
 have HR3 := Lh hr3
 have HS3 : Hid (Chg (fun x => BS pd ps pm p q x ∨ ∃ o, A1 = some ⟨x, o, none⟩ ∧ bl ≠ []) V u3) := Lh (hg3.mono (fun x e => .inr e))
 have HN3 : Hid (Chg Non (w.alloc (.cells Y 31)) u3) := Lh ((HN2.out.then_non HNV.out).then_new hg3 (fun x ⟨o, e, hl⟩ => by have := (HA1.out x o e hl).1; have := HSzV.out; omega))
 have HH3 := Lh (HH.out.non HN3.out)
 clear hr3 hg3
 refine hK.out _ _ HS3.out (fun _ => ?_)
 clear hK K
 try simp only [Act.put, sA, sB, sC]
 refine h1o 7 rfl ?_
 intro K hK
 go_simp
 go_at_call 24
 refine (HD.out u3 HH3.out A1 c1 HR3.out (fun x o e hl => by have h1 := (HA1.out x o e (HNe.out hl)).1; have h2 := HL0.out pd (.inl (.inl rfl)); omega)).mono ?_
 rintro e u4 ⟨rfl, hd4, hg4, hs4⟩
 have HD4 := Lh hd4
 have HS4 : Hid (Chg (fun x => BS pd ps pm p q x ∨ ∃ o, A1 = some ⟨x, o, none⟩ ∧ bl ≠ []) V u4) := Lh (HS3.out.trans_same (hg4.mono (fun x e => .inl (.inl e))))
 have HG14 : Hid (Chg (DS pd ps pm) (w.alloc (.cells Y 31)) u4) := Lh (HN3.out.non_then hg4)
 have HSt4 : Hid (u4.cell? ⟨pd, 4, none⟩ = (w.alloc (.cells Y 31)).cell? ⟨pd, 4, none⟩ ∨ D'.stay = []) := Lh (hs4.imp (fun e => e.trans (stay0 HH.out.dk.lt.1 HN3.out)) id)
 clear hd4 hg4 hs4
 refine hK.out _ _ HS4.out (fun _ => ?_)
 clear hK K
 try simp only [Act.put, sA, sB, sC]
 refine hp 8 15 (.int .i64 v) rfl HS4.out ?_
 refine hdn ?_ _
 have HQ14 := Lh (HS4.out.cell_some qV1 HM1.out)
 have HQ24 := Lh (HS4.out.cell_some qV2 HM1.out)
 have HO4 : Hid (Own u.heap.size u4 A2 bl) := Lh ((HO2.out.non HNV.out).keep HS4.out (fun b o e hB hl hs => by
   have h1 := HA2.out b o e hl
   rcases hs with hs | ⟨o', e', _⟩
   · have := HL0.out _ hs; omega
   · have := HA1.out b o' e' hl; omega))
 clear qV1 qV2 HOV HS0 HS3
 go_wp2_with fail
 obtain ⟨V2, hV⟩ : ∃ V, V = u4.drew := ⟨_, rfl⟩
 have hnV : Chg Non u4 V2 := by rw [hV]; exact (Chg.refl Non _).drew
 have HNV2 := Lh hnV
 have HOV2 := Lh (HO4.out.non hnV)
 have qW1 := hnV.cell_some HQ14.out (fun e => e)
 have qW2 := hnV.cell_some HQ24.out (fun e => e)
 refine wp_region_held_drew (S := Chg (fun x => BS pd ps pm p q x ∨ ∃ o, A2 = some ⟨x, o, none⟩ ∧ bl ≠ []) V2) (by kernel_rfl) (by rw [hV]; exact Chg.refl _ _) (fun hHeld => ?_)
 clear hHeld
 rw [← hV]
 clear hV hnV
 have HS0 : Hid (Chg (fun x => BS pd ps pm p q x ∨ ∃ o, A2 = some ⟨x, o, none⟩ ∧ bl ≠ []) V2 V2) := Lh (Chg.refl _ _)
 refine hp 0 102 (.int .i64 v) rfl HS0.out ?_
 refine hp 1 103 (.pointer (some ⟨p, 0, none⟩)) rfl HS0.out ?_
 refine hp 2 104 (.pointer (some ⟨w.heap.size, 2, none⟩)) rfl HS0.out ?_
 refine hp 3 105 (.int .i64 ks) rfl HS0.out ?_ (he := fun W hW => by have hc := hW.cell_some qW2 HM2.out; go_simp)
 refine hp 4 106 (.slice A2 bl.length c2) rfl HS0.out ?_
 refine hp 5 107 (.pointer (some ⟨w.heap.size, 1, none⟩)) rfl HS0.out ?_
 refine hp 6 108 (.int .i64 kn) rfl HS0.out ?_ (he := fun W hW => by have hc := hW.cell_some qW1 HM2.out; go_simp)
 refine h1o 7 rfl ?_
 intro K hK
 go_simp
 go_at_call 45
 refine (HSp.out _ A2 c2 V2 HOV2.out).mono ?_
 rintro e u5 ⟨rfl, hr5, hg5⟩
 have HR5 := Lh hr5
 have HS5 : Hid (Chg (fun x => BS pd ps pm p q x ∨ ∃ o, A2 = some ⟨x, o, none⟩ ∧ bl ≠ []) V2 u5) := Lh (hg5.mono (fun x e => .inr e))
 have HH5 := Lh (hf_mid HH.out HD4.out HSt4.out (HNV2.out.non_then hg5) (fun x ⟨o, e, hl⟩ => by have := (HA2.out x o e hl).2; have := HSzV.out; omega) HG14.out)
 clear hr5 hg5
 refine hK.out _ _ HS5.out (fun _ => ?_)
 clear hK K
 try simp only [Act.put, sA, sB, sC]
 refine h1o 8 rfl ?_
 intro K hK
 go_simp
 go_at_call 46
 refine (HE.out u5 HH5.out A2 c2 HR5.out).mono ?_
 rintro e u6 ⟨rfl, hH, hg⟩
 have HH2 := Lh hH
 have HS6 : Hid (Chg (fun x => BS pd ps pm p q x ∨ ∃ o, A2 = some ⟨x, o, none⟩ ∧ bl ≠ []) V2 u6) := Lh (HS5.out.trans_same (hg.mono (fun x e => .inl e)))
 clear hH hg
 refine hK.out _ _ HS6.out (fun _ => ?_)
 clear hK K
 try simp only [Act.put, sA, sB, sC]
 refine hp 9 111 (.bool true) rfl HS6.out ?_
 refine hp 10 6 (.bool true) rfl HS6.out ?_
 refine hdn ?_ _
 go_wp2_with fail
 go_ret
 exact ⟨rfl, D', E', HH2.out, HS.out⟩
theorem one_other (I : Nat → Prop) (w0 w : World) (pd ps pm p q B : Nat) (D : Dk) (E : Rk) (a : Ac) (vb vd : Value) (A : Option Addr) (c : Nat) (h : Hf w0 pd ps pm p q B D E w) (tw : Twin 323 D E) (hh : a.hash.length = 32) (hi : I64 a.kind ∧ I64 a.n ∧ I64 a.sec) (hst : StaV I w0 a.s vb vd) (hI : ∀ b, I b → b < w0.heap.size) (hb : Rd w0 A a.b) (hbl : a.b.length ≤ 140737488351232) (hk : ¬ (0 ≤ a.kind ∧ a.kind ≤ 8)) :
  Calls Tryz.prog 13 #[.pointer (some ⟨pd, 0, none⟩), .pointer (some ⟨p, 0, none⟩), .agg (acL a vb vd (.slice A a.b.length c)).toArray] w (OneP w0 pd ps pm p q B) := by
 obtain ⟨Y, hY, hys, y0, y1, y2, y38, hbx, hrn, hrq⟩ := act_box a vb vd A c w (BS pd ps pm p q) h.ltd hh
 rw [hY]
 have HYS := Lh hys
 have HBox := Lh hbx
 have HRng := Lh hrn
 have HRnq := Lh hrq
 have HXS := Lh (tagA_size a.hash hh)
 have HH := Lh (h.non ((Chg.refl Non w).alloc (.cells Y 31)))
 have HT := Lh tw
 have HBR := Lh hb
 have HLT := Lh h.ltd
 have HSt := Lh (And.intro hst (And.intro hI hh))
 have HBl := Lh hbl
 have HB0 := Lh (show (w.alloc (.cells Y 31)).heap[w.heap.size]? = some (.cells Y 31 (0, 0)) from heap_alloc_new _ _)
 clear hY hys hbx hrn hrq h tw hb hst hI hh
 obtain ⟨kd, kn, ks, ha, st, bt⟩ := a
 simp only at y0 y1 y2 y38 HRng HRnq HXS HBR HSt HBl hi hbl ⊢
 simp only at hk
 have b0 : (kd == 0) = false := by rw [beq_eq_false_iff_ne]; omega
 have b1 : (kd == 1) = false := by rw [beq_eq_false_iff_ne]; omega
 have b2 : (kd == 2) = false := by rw [beq_eq_false_iff_ne]; omega
 have b3 : (kd == 3) = false := by rw [beq_eq_false_iff_ne]; omega
 have b4 : (kd == 4) = false := by rw [beq_eq_false_iff_ne]; omega
 have b5 : (kd == 5) = false := by rw [beq_eq_false_iff_ne]; omega
 have b6 : (kd == 6) = false := by rw [beq_eq_false_iff_ne]; omega
 have b7 : (kd == 7) = false := by rw [beq_eq_false_iff_ne]; omega
 have b8 : (kd == 8) = false := by rw [beq_eq_false_iff_ne]; omega
 clear hk
 go_enter Tryz.func13, Tryz.ntmps13
 go_wp2_with fail
 go_ret
 exact ⟨rfl, D, E, HH.out, HT.out⟩
theorem one_ok (I : Nat → Prop) (w0 w : World) (pd ps pm p q B : Nat) (D : Dk) (E : Rk) (a : Ac) (vb vd : Value) (A : Option Addr) (c : Nat) (h : Hf w0 pd ps pm p q B D E w) (tw : Twin 323 D E) (hh : a.hash.length = 32) (hi : I64 a.kind ∧ I64 a.n ∧ I64 a.sec) (hst : StaV I w0 a.s vb vd) (hI : ∀ b, I b → b < w0.heap.size) (hb : Rd w0 A a.b) (hbl : a.b.length ≤ 140737488351232) :
  Calls Tryz.prog 13 #[.pointer (some ⟨pd, 0, none⟩), .pointer (some ⟨p, 0, none⟩), .agg (acL a vb vd (.slice A a.b.length c)).toArray] w (OneP w0 pd ps pm p q B) := by
 by_cases hk : 0 ≤ a.kind ∧ a.kind ≤ 8
 ·have : (a.kind = 0 ∨ a.kind = 1 ∨ a.kind = 2) ∨ a.kind = 3 ∨ (a.kind = 4 ∨ a.kind = 5) ∨ a.kind = 6 ∨ a.kind = 7 ∨ a.kind = 8 := by omega
  rcases this with e | e | e | e | e | e
  ·exact one_put I w0 w pd ps pm p q B D E a vb vd A c h tw hh hi hst hI hb hbl e
  ·exact one_crash I w0 w pd ps pm p q B D E a vb vd A c h tw hh hi hst hI hb hbl e
  ·exact one_start I w0 w pd ps pm p q B D E a vb vd A c h tw hh hi hst hI hb hbl e
  ·exact one_arm I w0 w pd ps pm p q B D E a vb vd A c h tw hh hi hst hI hb hbl e
  ·exact one_spoil I w0 w pd ps pm p q B D E a vb vd A c h tw hh hi hst hI hb hbl e
  ·exact one_flush I w0 w pd ps pm p q B D E a vb vd A c h tw hh hi hst hI hb hbl e
 ·exact one_other I w0 w pd ps pm p q B D E a vb vd A c h tw hh hi hst hI hb hbl hk
end
end Go.Proofs.YtkgnlobabknkcaaGreat
