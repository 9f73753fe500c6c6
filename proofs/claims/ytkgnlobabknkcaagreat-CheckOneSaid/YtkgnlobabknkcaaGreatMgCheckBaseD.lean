/- CheckBase, part 4 of 21: contracts of the functions that it reaches, and the laws that they need, merged and shortened (from my texts XValA, XIdx, XSch, XRes, XVmA, XValB). -/
import Derived.Test.YtkgnlobabknkcaaGreatMgCheckBaseA
import Derived.Test.YtkgnlobabknkcaaGreatMgCheckBaseB
import Derived.Test.YtkgnlobabknkcaaGreatMgCheckBaseC
import Derived.Maps.AppendAt
import Derived.Lib.AppendZerosOnto
import Derived.Laws.Cover3
namespace Go.Proofs.YtkgnlobabknkcaaGreat
set_option linter.unusedVariables false
set_option linter.unusedSimpArgs false
set_option maxHeartbeats 8000000
section
open Go.RowKit
theorem ret_b {a b : Bool} (h : a = b) : Ending.returned (.bool a) = .returned (.bool b) := by rw [h]
theorem ret_i {k : IntKind} {a b : Int} (h : a = b) : Ending.returned (.int k a) = .returned (.int k b) := by rw [h]
theorem tmod4 (s : Int) : s.tmod 4 = 0 ↔ s % 4 = 0 := by
 rw [← Int.dvd_iff_tmod_eq_zero, Int.dvd_iff_emod_eq_zero]
def regMay (b s : Int) : Bool := decide (0 ≤ b) && decide (b ≤ 4096) && decide (b % 4 = 0) && decide (s % 4 = 0) && decide (16 ≤ s) && decide (s ≤ 512) && decide (b + s ≤ 4096)
theorem regMay_iff {b s : Int} : regMay b s = true ↔ 0 ≤ b ∧ b % 4 = 0 ∧ s % 4 = 0 ∧ 16 ≤ s ∧ s ≤ 512 ∧ b + s ≤ 4096 := by
 simp only [regMay, Bool.and_eq_true, decide_eq_true_eq]
 constructor
 ·rintro ⟨⟨⟨⟨⟨⟨a, b⟩, c⟩, d⟩, e⟩, f⟩, g⟩
  exact ⟨a, c, d, e, f, g⟩
 ·rintro ⟨a, c, d, e, f, g⟩
  exact ⟨⟨⟨⟨⟨⟨a, by omega⟩, c⟩, d⟩, e⟩, f⟩, g⟩
set_option maxRecDepth 100000 in
theorem regMay_ok (b s : Int) (w : World) :
  Calls Tryz.prog 102 #[.agg #[.int .i64 b, .int .i64 s]] w fun e w' => e = .returned (.bool (regMay b s)) ∧ Chg Non w w' := by
 have hst := Lib.hid (tmod4 s)
 by_cases h0 : 0 ≤ b
 ·have htm : b.tmod 4 = b % 4 := Int.tmod_eq_emod_of_nonneg h0
  have hr0 : 0 ≤ b % 4 := by omega
  have hr1 : b % 4 < 4 := by omega
  have hwr : IntKind.i64.wrap (b % 4) = b % 4 := Go.IntWalk.i64_in _ (by omega)
  go_enter Tryz.func102, Tryz.ntmps102
  go_wp2
  all_goals
   go_ret
   refine ⟨ret_b ?_, (Chg.refl _ _).alloc _⟩
   have hst := hst.out
   rw [Bool.eq_iff_iff, regMay_iff]
   simp only [decide_eq_true_eq, Bool.false_eq_true, false_iff]
   omega
 ·have h0' : decide (0 ≤ b) = false := by simpa using h0
  go_enter Tryz.func102, Tryz.ntmps102
  go_wp2
  go_ret
  refine ⟨ret_b ?_, (Chg.refl _ _).alloc _⟩
  rw [Bool.eq_iff_iff, regMay_iff]
  simp only [Bool.false_eq_true, false_iff]
  omega
def regEnd (b s : Int) : Int := if regMay b s = true then b + s else 0
set_option maxRecDepth 100000 in
theorem regEnd_ok (b s : Int) (w : World) :
  Calls Tryz.prog 245 #[.agg #[.int .i64 b, .int .i64 s]] w fun e w' => e = .returned (.int .i64 (regEnd b s)) ∧ Chg Non w w' := by
 have HM := Lib.hid (fun W => regMay_ok b s W)
 have HE : Hid (regEnd b s = if regMay b s = true then b + s else 0) := Lib.hid rfl
 obtain ⟨m, hm⟩ : ∃ m, regMay b s = m := ⟨_, rfl⟩
 rw [hm] at HM HE
 cases m with
 | false =>
  clear hm
  go_enter Tryz.func245, Tryz.ntmps245
  go_wp2_with fail
  refine (HM.out _).mono ?_
  rintro e u ⟨rfl, hg⟩
  go_wp2_with fail
  go_ret
  exact ⟨by rw [HE.out]; rfl, ((Chg.refl Non w).alloc _).then_non hg⟩
 | true =>
  have hb := regMay_iff.1 hm
  have h1 : 0 ≤ b := hb.1
  have h2 : 16 ≤ s := hb.2.2.2.1
  have h3 : b + s ≤ 4096 := hb.2.2.2.2.2
  clear hm hb
  go_enter Tryz.func245, Tryz.ntmps245
  go_wp2_with fail
  refine (HM.out _).mono ?_
  rintro e u ⟨rfl, hg⟩
  have hb := hg.block _ (by simp) (fun e => e) |>.trans (heap_alloc_new w (.cells #[.int .i64 b, .int .i64 s] 159))
  have k0 : u.cell? ⟨w.heap.size, 0, none⟩ = some (.int .i64 b) := by rw [cell_of_row _ _ _ _ _ _ hb]; rfl
  have k1 : u.cell? ⟨w.heap.size, 1, none⟩ = some (.int .i64 s) := by rw [cell_of_row _ _ _ _ _ _ hb]; rfl
  have HB := Lib.hid hb
  clear hb
  go_wp2_with fail
  go_ret
  exact ⟨by rw [HE.out]; rfl, ((Chg.refl Non w).alloc _).then_non hg⟩
def chPart (n : Int) : Bool := decide (1 ≤ n) && decide (n ≤ 6)
theorem chPart_ok (n : Int) (w : World) : Calls Tryz.prog 135 #[.int .i64 n] w fun e w' => e = .returned (.bool (chPart n)) ∧ w = w' := by
 go_enter Tryz.func135, Tryz.ntmps135
 go_wp2
 all_goals
  go_ret
  refine ⟨ret_b ?_, rfl⟩
  rw [Bool.eq_iff_iff]
  simp only [chPart, Bool.and_eq_true, decide_eq_true_eq, Bool.false_eq_true, false_iff]
  omega
def chMay (id src dst cap size : Int) : Bool := decide (1 ≤ id) && decide (id ≤ 8) && chPart src && chPart dst && decide (src ≠ dst) && decide (1 ≤ cap) && decide (cap ≤ 4) && decide (1 ≤ size) && decide (size ≤ 16)
set_option maxRecDepth 100000 in
theorem chMay_ok (id src dst cap size : Int) (w : World) :
  Calls Tryz.prog 104 #[.agg #[.int .i64 id, .int .i64 src, .int .i64 dst, .int .i64 cap, .int .i64 size]] w fun e w' => e = .returned (.bool (chMay id src dst cap size)) ∧ Chg Non w w' := by
 have H1 := Lib.hid (fun W => chPart_ok src W)
 have H2 := Lib.hid (fun W => chPart_ok dst W)
 obtain ⟨m, hm⟩ : ∃ m, chMay id src dst cap size = m := ⟨_, rfl⟩
 rw [hm]
 unfold chMay at hm
 obtain ⟨b1, h1⟩ : ∃ b, chPart src = b := ⟨_, rfl⟩
 obtain ⟨b2, h2⟩ : ∃ b, chPart dst = b := ⟨_, rfl⟩
 rw [h1, h2] at hm
 rw [h1] at H1
 rw [h2] at H2
 have HM := Lib.hid hm
 clear h1 h2 hm
 cases b1 <;> cases b2
 all_goals
  go_enter Tryz.func104, Tryz.ntmps104
  go_wp2_with (first
    | ((with_reducible refine (H1.out _).mono ?_); rintro e u ⟨rfl, rfl⟩)
    | ((with_reducible refine (H2.out _).mono ?_); rintro e u ⟨rfl, rfl⟩))
  all_goals
   go_ret
   refine ⟨ret_b ?_, (Chg.refl _ _).alloc _⟩
   rw [← HM.out, Bool.eq_iff_iff]
   simp only [Bool.and_eq_true, decide_eq_true_eq, Bool.false_eq_true, false_iff, and_false, false_and, not_false_eq_true, and_true, true_and, bne_iff_ne, ne_eq]
   try omega
end
section
open Go.RowKit
def idxOf {α : Type} (p : α → Bool) (l : List α) : Int := match l.findIdx? p with | some i => (i : Int) | none => -1
theorem idx_some {α : Type} {p : α → Bool} {l : List α} {k : Nat} {a : α} (ha : l[k]? = some a) (hp : p a = true) (hn : ∀ i b, i < k → l[i]? = some b → p b = false) : idxOf p l = k := by
 have h : l.findIdx? p = some k := by
  obtain ⟨hk, e⟩ := List.getElem?_eq_some_iff.1 ha
  rw [List.findIdx?_eq_some_iff_getElem]
  exact ⟨hk, by rw [e]; exact hp, fun j hj => by simp [hn j _ hj (List.getElem?_eq_getElem (by omega))]⟩
 rw [idxOf, h]
theorem idx_none {α : Type} {p : α → Bool} {l : List α} (hn : ∀ i b, i < l.length → l[i]? = some b → p b = false) : idxOf p l = -1 := by
 have h : l.findIdx? p = none := by
  rw [List.findIdx?_eq_none_iff]
  intro x hx
  obtain ⟨i, hi⟩ := List.getElem?_of_mem hx
  exact hn i x (List.getElem?_eq_some_iff.1 hi).1 hi
 rw [idxOf, h]
theorem idx_ge {α : Type} (p : α → Bool) (l : List α) : decide (0 ≤ idxOf p l) = l.any p := by
 rw [Bool.eq_iff_iff, decide_eq_true_eq, List.any_eq_true]
 unfold idxOf
 constructor
 ·intro h
  cases hf : l.findIdx? p with
  | none => rw [hf] at h; simp at h
  | some i =>
   obtain ⟨hi, hp, _⟩ := List.findIdx?_eq_some_iff_getElem.1 hf
   exact ⟨l[i], List.getElem_mem hi, hp⟩
 ·rintro ⟨x, hx, hp⟩
  cases hf : l.findIdx? p with
  | none => rw [List.findIdx?_eq_none_iff] at hf; rw [hf x hx] at hp; cases hp
  | some i => simp
def Asks {α : Type} (R : World → α → List Value → Prop) (V : List Value → Value) (l : List α) (p : α → Bool) (w : World) (K : Nat) (cap : List Value) : Prop :=
 ∀ W a vs, Chg Non w W → a ∈ l → R W a vs → Calls Tryz.prog K (V vs :: cap).toArray W fun e W' => e = .returned (.bool (p a)) ∧ Chg Non W W'
def aggV (vs : List Value) : Value := .agg vs.toArray
def oneV : List Value → Value
 | [v] => v
 | _ => undef
theorem idx_bd {α : Type} (p : α → Bool) (l : List α) : -1 ≤ idxOf p l := by
 unfold idxOf
 split <;> omega
set_option maxRecDepth 100000 in
theorem idxWindows {α : Type} (R : World → α → List Value → Prop) (I : Nat → Prop) (hm : ∀ W W' a vs, Chg Non W W' → R W a vs → R W' a vs) (p : α → Bool) (x : Value) (A : Option Addr) (l : List α) (c : Nat) (w : World)
  (hr : RdL R I 2 w A l) (hf : Asks R aggV l p w 227 [x]) (hc : l.length ≤ c) (hcm : c ≤ maxLen) :
  Calls Tryz.prog 236 #[.slice A l.length c, .func (.func 227) #[] #[x]] w fun e w' => e = .returned (.int .i64 (idxOf p l)) ∧ Chg Non w w' := by
 unfold maxLen at hcm
 have HR := Lib.hid hr
 have HF := Lib.hid hf
 clear hr hf
 go_enter Tryz.func236, Tryz.ntmps236
 go_wp2_with fail
 go_loopw [8] (fun iv wr => ∃ k : Nat, k ≤ l.length ∧ iv = .int .i64 k ∧ Hid (∀ i b, i < k → l[i]? = some b → p b = false) ∧ Hid (Chg Non w wr)) (fun iv _ => l.length - (intOf iv).toNat)
 case atStart => exact ⟨0, Nat.zero_le _, rfl, Lib.hid (fun i b h => by omega), Lib.hid (Chg.refl _ _)⟩
 case round =>
  obtain ⟨k, hk, rfl, HN, HG⟩ := hrel
  by_cases hlt : k < l.length
  ·obtain ⟨a, ha⟩ : ∃ a, l[k]? = some a := ⟨_, List.getElem?_eq_getElem hlt⟩
   obtain ⟨b, o, vs, rfl, _, hlen, hcell0, hR⟩ := HR.out k a ha
   have hcell := range_keepS hcell0 HG.out (fun e => e)
   have HK := Lib.hid (HF.out wr a vs HG.out (List.mem_of_getElem? ha) (hm _ _ _ _ HG.out hR))
   have hltd : decide ((k : Int) < (l.length : Int)) = true := by simpa using hlt
   have HA := Lib.hid ha
   clear ha hR hcell0
   have HC := Lib.hid hcell
   have HL := Lib.hid hlen
   clear hcell hlen
   go_wp2_with (refine sel (some 15) (.load 156 (.tmp 14)) ?_; refine wpList_load_mid rfl 156 (.tmp 14) rfl b (o + k * 2) rfl vs _ HC.out Tryz.underlying156 rfl (by rw [HL.out]; kernel_rfl) ?_)
   refine HK.out.mono ?_
   rintro e u ⟨rfl, hg⟩
   have HG2 := Lib.hid (HG.out.then_non hg)
   clear hg
   cases hp : p a with
   | true =>
    go_wp2_with fail
    go_ret
    exact ⟨ret_i (idx_some HA.out hp HN.out).symm, HG2.out⟩
   | false =>
    have HN2 : Hid (∀ i b, i < k + 1 → l[i]? = some b → p b = false) := Lib.hid (fun i b hi hb => by
      by_cases e : i = k
      · subst e
        rw [HA.out] at hb
        injection hb with hb
        subst hb
        exact hp
      · exact HN.out i b (by omega) hb)
    have HP := Lib.hid hp
    clear hp
    go_wp2_with fail
    exact ⟨⟨k + 1, by omega, by simp, HN2, HG2⟩, by simp [intOf]; omega⟩
  ·obtain rfl : k = l.length := by omega
   have hltd : decide ((l.length : Int) < (l.length : Int)) = false := by simp
   go_wp2_with fail
   go_ret
   exact ⟨ret_i (idx_none HN.out).symm, HG.out⟩
set_option maxRecDepth 100000 in
theorem anyWindows {α : Type} (R : World → α → List Value → Prop) (I : Nat → Prop) (hm : ∀ W W' a vs, Chg Non W W' → R W a vs → R W' a vs) (p : α → Bool) (x : Value) (A : Option Addr) (l : List α) (c : Nat) (w : World)
  (hr : RdL R I 2 w A l) (hf : Asks R aggV l p w 227 [x]) (hc : l.length ≤ c) (hcm : c ≤ maxLen) :
  Calls Tryz.prog 226 #[.slice A l.length c, .func (.func 227) #[] #[x]] w fun e w' => e = .returned (.bool (l.any p)) ∧ Chg Non w w' := by
 have HI := Lib.hid (idxWindows R I hm p x A l c w hr hf hc hcm)
 have HB := Lib.hid (idx_ge p l)
 obtain ⟨j, hj⟩ : ∃ j, idxOf p l = j := ⟨_, rfl⟩
 rw [hj] at HI HB
 clear hr hf hj
 go_enter Tryz.func226, Tryz.ntmps226
 go_wp2_with fail
 refine HI.out.mono ?_
 rintro e u ⟨rfl, hg⟩
 go_wp2_with fail
 go_ret
 exact ⟨ret_b HB.out, hg⟩
set_option maxRecDepth 100000 in
theorem idxPart {α : Type} (R : World → α → List Value → Prop) (I : Nat → Prop) (hm : ∀ W W' a vs, Chg Non W W' → R W a vs → R W' a vs) (p : α → Bool) (x : Value) (A : Option Addr) (l : List α) (c : Nat) (w : World)
  (hr : RdL R I 5 w A l) (hf : Asks R aggV l p w 243 [x]) (hc : l.length ≤ c) (hcm : c ≤ maxLen) :
  Calls Tryz.prog 238 #[.slice A l.length c, .func (.func 243) #[] #[x]] w fun e w' => e = .returned (.int .i64 (idxOf p l)) ∧ Chg Non w w' := by
 unfold maxLen at hcm
 have HR := Lib.hid hr
 have HF := Lib.hid hf
 clear hr hf
 go_enter Tryz.func238, Tryz.ntmps238
 go_wp2_with fail
 go_loopw [8] (fun iv wr => ∃ k : Nat, k ≤ l.length ∧ iv = .int .i64 k ∧ Hid (∀ i b, i < k → l[i]? = some b → p b = false) ∧ Hid (Chg Non w wr)) (fun iv _ => l.length - (intOf iv).toNat)
 case atStart => exact ⟨0, Nat.zero_le _, rfl, Lib.hid (fun i b h => by omega), Lib.hid (Chg.refl _ _)⟩
 case round =>
  obtain ⟨k, hk, rfl, HN, HG⟩ := hrel
  by_cases hlt : k < l.length
  ·obtain ⟨a, ha⟩ : ∃ a, l[k]? = some a := ⟨_, List.getElem?_eq_getElem hlt⟩
   obtain ⟨b, o, vs, rfl, _, hlen, hcell0, hR⟩ := HR.out k a ha
   have hcell := range_keepS hcell0 HG.out (fun e => e)
   have HK := Lib.hid (HF.out wr a vs HG.out (List.mem_of_getElem? ha) (hm _ _ _ _ HG.out hR))
   have hltd : decide ((k : Int) < (l.length : Int)) = true := by simpa using hlt
   have HA := Lib.hid ha
   clear ha hR hcell0
   have HC := Lib.hid hcell
   have HL := Lib.hid hlen
   clear hcell hlen
   go_wp2_with (refine sel (some 15) (.load 161 (.tmp 14)) ?_; refine wpList_load_mid rfl 161 (.tmp 14) rfl b (o + k * 5) rfl vs _ HC.out Tryz.underlying161 rfl (by rw [HL.out]; kernel_rfl) ?_)
   refine HK.out.mono ?_
   rintro e u ⟨rfl, hg⟩
   have HG2 := Lib.hid (HG.out.then_non hg)
   clear hg
   cases hp : p a with
   | true =>
    go_wp2_with fail
    go_ret
    exact ⟨ret_i (idx_some HA.out hp HN.out).symm, HG2.out⟩
   | false =>
    have HN2 : Hid (∀ i b, i < k + 1 → l[i]? = some b → p b = false) := Lib.hid (fun i b hi hb => by
      by_cases e : i = k
      · subst e
        rw [HA.out] at hb
        injection hb with hb
        subst hb
        exact hp
      · exact HN.out i b (by omega) hb)
    have HP := Lib.hid hp
    clear hp
    go_wp2_with fail
    exact ⟨⟨k + 1, by omega, by simp, HN2, HG2⟩, by simp [intOf]; omega⟩
  ·obtain rfl : k = l.length := by omega
   have hltd : decide ((l.length : Int) < (l.length : Int)) = false := by simp
   go_wp2_with fail
   go_ret
   exact ⟨ret_i (idx_none HN.out).symm, HG.out⟩
set_option maxRecDepth 100000 in
theorem idxRegions {α : Type} (R : World → α → List Value → Prop) (I : Nat → Prop) (hm : ∀ W W' a vs, Chg Non W W' → R W a vs → R W' a vs) (p : α → Bool) (A : Option Addr) (l : List α) (c : Nat) (w : World)
  (hr : RdL R I 5 w A l) (hf : Asks R aggV l p w 230 []) (hc : l.length ≤ c) (hcm : c ≤ maxLen) :
  Calls Tryz.prog 238 #[.slice A l.length c, .func (.func 230) #[] #[]] w fun e w' => e = .returned (.int .i64 (idxOf p l)) ∧ Chg Non w w' := by
 unfold maxLen at hcm
 have HR := Lib.hid hr
 have HF := Lib.hid hf
 clear hr hf
 go_enter Tryz.func238, Tryz.ntmps238
 go_wp2_with fail
 go_loopw [8] (fun iv wr => ∃ k : Nat, k ≤ l.length ∧ iv = .int .i64 k ∧ Hid (∀ i b, i < k → l[i]? = some b → p b = false) ∧ Hid (Chg Non w wr)) (fun iv _ => l.length - (intOf iv).toNat)
 case atStart => exact ⟨0, Nat.zero_le _, rfl, Lib.hid (fun i b h => by omega), Lib.hid (Chg.refl _ _)⟩
 case round =>
  obtain ⟨k, hk, rfl, HN, HG⟩ := hrel
  by_cases hlt : k < l.length
  ·obtain ⟨a, ha⟩ : ∃ a, l[k]? = some a := ⟨_, List.getElem?_eq_getElem hlt⟩
   obtain ⟨b, o, vs, rfl, _, hlen, hcell0, hR⟩ := HR.out k a ha
   have hcell := range_keepS hcell0 HG.out (fun e => e)
   have HK := Lib.hid (HF.out wr a vs HG.out (List.mem_of_getElem? ha) (hm _ _ _ _ HG.out hR))
   have hltd : decide ((k : Int) < (l.length : Int)) = true := by simpa using hlt
   have HA := Lib.hid ha
   clear ha hR hcell0
   have HC := Lib.hid hcell
   have HL := Lib.hid hlen
   clear hcell hlen
   go_wp2_with (refine sel (some 15) (.load 161 (.tmp 14)) ?_; refine wpList_load_mid rfl 161 (.tmp 14) rfl b (o + k * 5) rfl vs _ HC.out Tryz.underlying161 rfl (by rw [HL.out]; kernel_rfl) ?_)
   refine HK.out.mono ?_
   rintro e u ⟨rfl, hg⟩
   have HG2 := Lib.hid (HG.out.then_non hg)
   clear hg
   cases hp : p a with
   | true =>
    go_wp2_with fail
    go_ret
    exact ⟨ret_i (idx_some HA.out hp HN.out).symm, HG2.out⟩
   | false =>
    have HN2 : Hid (∀ i b, i < k + 1 → l[i]? = some b → p b = false) := Lib.hid (fun i b hi hb => by
      by_cases e : i = k
      · subst e
        rw [HA.out] at hb
        injection hb with hb
        subst hb
        exact hp
      · exact HN.out i b (by omega) hb)
    have HP := Lib.hid hp
    clear hp
    go_wp2_with fail
    exact ⟨⟨k + 1, by omega, by simp, HN2, HG2⟩, by simp [intOf]; omega⟩
  ·obtain rfl : k = l.length := by omega
   have hltd : decide ((l.length : Int) < (l.length : Int)) = false := by simp
   go_wp2_with fail
   go_ret
   exact ⟨ret_i (idx_none HN.out).symm, HG.out⟩
set_option maxRecDepth 100000 in
theorem anyRegions {α : Type} (R : World → α → List Value → Prop) (I : Nat → Prop) (hm : ∀ W W' a vs, Chg Non W W' → R W a vs → R W' a vs) (p : α → Bool) (A : Option Addr) (l : List α) (c : Nat) (w : World)
  (hr : RdL R I 5 w A l) (hf : Asks R aggV l p w 230 []) (hc : l.length ≤ c) (hcm : c ≤ maxLen) :
  Calls Tryz.prog 229 #[.slice A l.length c, .func (.func 230) #[] #[]] w fun e w' => e = .returned (.bool (l.any p)) ∧ Chg Non w w' := by
 have HI := Lib.hid (idxRegions R I hm p A l c w hr hf hc hcm)
 have HB := Lib.hid (idx_ge p l)
 obtain ⟨j, hj⟩ : ∃ j, idxOf p l = j := ⟨_, rfl⟩
 rw [hj] at HI HB
 clear hr hf hj
 go_enter Tryz.func229, Tryz.ntmps229
 go_wp2_with fail
 refine HI.out.mono ?_
 rintro e u ⟨rfl, hg⟩
 go_wp2_with fail
 go_ret
 exact ⟨ret_b HB.out, hg⟩
set_option maxRecDepth 100000 in
theorem idxChannels {α : Type} (R : World → α → List Value → Prop) (I : Nat → Prop) (hm : ∀ W W' a vs, Chg Non W W' → R W a vs → R W' a vs) (p : α → Bool) (x : Value) (A : Option Addr) (l : List α) (c : Nat) (w : World)
  (hr : RdL R I 5 w A l) (hf : Asks R aggV l p w 234 [x]) (hc : l.length ≤ c) (hcm : c ≤ maxLen) :
  Calls Tryz.prog 241 #[.slice A l.length c, .func (.func 234) #[] #[x]] w fun e w' => e = .returned (.int .i64 (idxOf p l)) ∧ Chg Non w w' := by
 unfold maxLen at hcm
 have HR := Lib.hid hr
 have HF := Lib.hid hf
 clear hr hf
 go_enter Tryz.func241, Tryz.ntmps241
 go_wp2_with fail
 go_loopw [8] (fun iv wr => ∃ k : Nat, k ≤ l.length ∧ iv = .int .i64 k ∧ Hid (∀ i b, i < k → l[i]? = some b → p b = false) ∧ Hid (Chg Non w wr)) (fun iv _ => l.length - (intOf iv).toNat)
 case atStart => exact ⟨0, Nat.zero_le _, rfl, Lib.hid (fun i b h => by omega), Lib.hid (Chg.refl _ _)⟩
 case round =>
  obtain ⟨k, hk, rfl, HN, HG⟩ := hrel
  by_cases hlt : k < l.length
  ·obtain ⟨a, ha⟩ : ∃ a, l[k]? = some a := ⟨_, List.getElem?_eq_getElem hlt⟩
   obtain ⟨b, o, vs, rfl, _, hlen, hcell0, hR⟩ := HR.out k a ha
   have hcell := range_keepS hcell0 HG.out (fun e => e)
   have HK := Lib.hid (HF.out wr a vs HG.out (List.mem_of_getElem? ha) (hm _ _ _ _ HG.out hR))
   have hltd : decide ((k : Int) < (l.length : Int)) = true := by simpa using hlt
   have HA := Lib.hid ha
   clear ha hR hcell0
   have HC := Lib.hid hcell
   have HL := Lib.hid hlen
   clear hcell hlen
   go_wp2_with (refine sel (some 15) (.load 107 (.tmp 14)) ?_; refine wpList_load_mid rfl 107 (.tmp 14) rfl b (o + k * 5) rfl vs _ HC.out Tryz.underlying107 rfl (by rw [HL.out]; kernel_rfl) ?_)
   refine HK.out.mono ?_
   rintro e u ⟨rfl, hg⟩
   have HG2 := Lib.hid (HG.out.then_non hg)
   clear hg
   cases hp : p a with
   | true =>
    go_wp2_with fail
    go_ret
    exact ⟨ret_i (idx_some HA.out hp HN.out).symm, HG2.out⟩
   | false =>
    have HN2 : Hid (∀ i b, i < k + 1 → l[i]? = some b → p b = false) := Lib.hid (fun i b hi hb => by
      by_cases e : i = k
      · subst e
        rw [HA.out] at hb
        injection hb with hb
        subst hb
        exact hp
      · exact HN.out i b (by omega) hb)
    have HP := Lib.hid hp
    clear hp
    go_wp2_with fail
    exact ⟨⟨k + 1, by omega, by simp, HN2, HG2⟩, by simp [intOf]; omega⟩
  ·obtain rfl : k = l.length := by omega
   have hltd : decide ((l.length : Int) < (l.length : Int)) = false := by simp
   go_wp2_with fail
   go_ret
   exact ⟨ret_i (idx_none HN.out).symm, HG.out⟩
set_option maxRecDepth 100000 in
theorem anyChannels {α : Type} (R : World → α → List Value → Prop) (I : Nat → Prop) (hm : ∀ W W' a vs, Chg Non W W' → R W a vs → R W' a vs) (p : α → Bool) (x : Value) (A : Option Addr) (l : List α) (c : Nat) (w : World)
  (hr : RdL R I 5 w A l) (hf : Asks R aggV l p w 234 [x]) (hc : l.length ≤ c) (hcm : c ≤ maxLen) :
  Calls Tryz.prog 233 #[.slice A l.length c, .func (.func 234) #[] #[x]] w fun e w' => e = .returned (.bool (l.any p)) ∧ Chg Non w w' := by
 have HI := Lib.hid (idxChannels R I hm p x A l c w hr hf hc hcm)
 have HB := Lib.hid (idx_ge p l)
 obtain ⟨j, hj⟩ : ∃ j, idxOf p l = j := ⟨_, rfl⟩
 rw [hj] at HI HB
 clear hr hf hj
 go_enter Tryz.func233, Tryz.ntmps233
 go_wp2_with fail
 refine HI.out.mono ?_
 rintro e u ⟨rfl, hg⟩
 go_wp2_with fail
 go_ret
 exact ⟨ret_b HB.out, hg⟩
set_option maxRecDepth 100000 in
theorem idxMay {α : Type} (R : World → α → List Value → Prop) (I : Nat → Prop) (hm : ∀ W W' a vs, Chg Non W W' → R W a vs → R W' a vs) (p : α → Bool) (x : Value) (A : Option Addr) (l : List α) (c : Nat) (w : World)
  (hr : RdL R I 1 w A l) (hf : Asks R oneV l p w 103 [x]) (hc : l.length ≤ c) (hcm : c ≤ maxLen) :
  Calls Tryz.prog 136 #[.slice A l.length c, .func (.func 103) #[] #[x]] w fun e w' => e = .returned (.int .i64 (idxOf p l)) ∧ Chg Non w w' := by
 unfold maxLen at hcm
 have HR := Lib.hid hr
 have HF := Lib.hid hf
 clear hr hf
 go_enter Tryz.func136, Tryz.ntmps136
 go_wp2_with fail
 go_loopw [8] (fun iv wr => ∃ k : Nat, k ≤ l.length ∧ iv = .int .i64 k ∧ Hid (∀ i b, i < k → l[i]? = some b → p b = false) ∧ Hid (Chg Non w wr)) (fun iv _ => l.length - (intOf iv).toNat)
 case atStart => exact ⟨0, Nat.zero_le _, rfl, Lib.hid (fun i b h => by omega), Lib.hid (Chg.refl _ _)⟩
 case round =>
  obtain ⟨k, hk, rfl, HN, HG⟩ := hrel
  by_cases hlt : k < l.length
  ·obtain ⟨a, ha⟩ : ∃ a, l[k]? = some a := ⟨_, List.getElem?_eq_getElem hlt⟩
   obtain ⟨b, o, vs, rfl, _, hlen, hcell0, hR⟩ := HR.out k a ha
   have hcell := range_keepS hcell0 HG.out (fun e => e)
   have HK := Lib.hid (HF.out wr a vs HG.out (List.mem_of_getElem? ha) (hm _ _ _ _ HG.out hR))
   have hltd : decide ((k : Int) < (l.length : Int)) = true := by simpa using hlt
   have HA := Lib.hid ha
   clear ha hR hcell0
   simp only [Nat.mul_one] at hcell
   obtain ⟨v, rfl⟩ : ∃ v, vs = [v] := by
    match vs, hlen with
    | [v], _ => exact ⟨v, rfl⟩
   have k0 : wr.cell? ⟨b, o + k, none⟩ = some v := by have := hcell 0 v rfl; simpa using this
   clear hcell hlen
   go_wp2_with fail
   refine HK.out.mono ?_
   rintro e u ⟨rfl, hg⟩
   have HG2 := Lib.hid (HG.out.then_non hg)
   clear hg
   cases hp : p a with
   | true =>
    go_wp2_with fail
    go_ret
    exact ⟨ret_i (idx_some HA.out hp HN.out).symm, HG2.out⟩
   | false =>
    have HN2 : Hid (∀ i b, i < k + 1 → l[i]? = some b → p b = false) := Lib.hid (fun i b hi hb => by
      by_cases e : i = k
      · subst e
        rw [HA.out] at hb
        injection hb with hb
        subst hb
        exact hp
      · exact HN.out i b (by omega) hb)
    have HP := Lib.hid hp
    clear hp
    go_wp2_with fail
    exact ⟨⟨k + 1, by omega, by simp, HN2, HG2⟩, by simp [intOf]; omega⟩
  ·obtain rfl : k = l.length := by omega
   have hltd : decide ((l.length : Int) < (l.length : Int)) = false := by simp
   go_wp2_with fail
   go_ret
   exact ⟨ret_i (idx_none HN.out).symm, HG.out⟩
set_option maxRecDepth 100000 in
theorem anyMay {α : Type} (R : World → α → List Value → Prop) (I : Nat → Prop) (hm : ∀ W W' a vs, Chg Non W W' → R W a vs → R W' a vs) (p : α → Bool) (x : Value) (A : Option Addr) (l : List α) (c : Nat) (w : World)
  (hr : RdL R I 1 w A l) (hf : Asks R oneV l p w 103 [x]) (hc : l.length ≤ c) (hcm : c ≤ maxLen) :
  Calls Tryz.prog 105 #[.slice A l.length c, .func (.func 103) #[] #[x]] w fun e w' => e = .returned (.bool (l.any p)) ∧ Chg Non w w' := by
 have HI := Lib.hid (idxMay R I hm p x A l c w hr hf hc hcm)
 have HB := Lib.hid (idx_ge p l)
 obtain ⟨j, hj⟩ : ∃ j, idxOf p l = j := ⟨_, rfl⟩
 rw [hj] at HI HB
 clear hr hf hj
 go_enter Tryz.func105, Tryz.ntmps105
 go_wp2_with fail
 refine HI.out.mono ?_
 rintro e u ⟨rfl, hg⟩
 go_wp2_with fail
 go_ret
 exact ⟨ret_b HB.out, hg⟩
end
section
open Go.RowKit
theorem win_at {I : Nat → Prop} {w w' : World} {A : Option Addr} {ws : List Win} (hr : RdL winV I 2 w A ws) (hg : Chg Non w w') {k : Nat} {a : Win} (hk : ws[k]? = some a) :
  ∃ b o, A = some ⟨b, o, none⟩ ∧ w'.cell? ⟨b, o + k * 2, none⟩ = some (.int .i64 a.len) ∧ w'.cell? ⟨b, o + k * 2 + 1, none⟩ = some (.int .i64 a.part) ∧ b < w'.heap.size ∧ I64 a.len ∧ I64 a.part := by
 obtain ⟨b, o, vs, rfl, _, hl, hc, rfl, h1, h2⟩ := hr k a hk
 have h0 := hg.cell_some (hc 0 (.int .i64 a.len) rfl) (fun e => e)
 exact ⟨b, o, rfl, h0, hg.cell_some (hc 1 (.int .i64 a.part) rfl) (fun e => e), lt_of_cell h0, h1, h2⟩
def winOk (a : Win) : Bool := decide (1 ≤ a.len) && decide (a.len ≤ 64) && decide (0 ≤ a.part) && decide (a.part ≤ 6)
theorem winOk_iff {a : Win} : winOk a = true ↔ 1 ≤ a.len ∧ a.len ≤ 64 ∧ 0 ≤ a.part ∧ a.part ≤ 6 := by
 simp only [winOk, Bool.and_eq_true, decide_eq_true_eq]
 omega
def wsum (ws : List Win) : Int := (ws.map (·.len)).sum
theorem wsum_snoc {ws : List Win} {k : Nat} {a : Win} (h : ws[k]? = some a) : wsum (ws.take (k + 1)) = wsum (ws.take k) + a.len := by
 obtain ⟨hk, rfl⟩ := List.getElem?_eq_some_iff.1 h
 rw [List.take_succ_eq_append_getElem hk]
 simp only [wsum, List.map_append, List.sum_append, List.map_cons, List.map_nil, List.sum_cons, List.sum_nil]
 omega
theorem wsum_bd {ws : List Win} (n : Nat) (h : ∀ i a, i < n → ws[i]? = some a → winOk a = true) : 0 ≤ wsum (ws.take n) ∧ wsum (ws.take n) ≤ 64 * n := by
 induction n with
 | zero => simp [wsum]
 | succ n ih =>
  have := ih (fun i a hi ha => h i a (by omega) ha)
  cases ha : ws[n]? with
  | none =>
   have hn : ws.length ≤ n := List.getElem?_eq_none_iff.1 ha
   rw [List.take_of_length_le (by omega)] at this ⊢
   omega
  | some a =>
   rw [wsum_snoc ha]
   have := winOk_iff.1 (h n a (by omega) ha)
   omega
def schMay (ws : List Win) : Bool := decide (1 ≤ ws.length) && decide (ws.length ≤ 12) && ws.all winOk && decide (wsum ws ≤ 64)
theorem schMay_bd {ws : List Win} (h : schMay ws = true) : 1 ≤ ws.length ∧ ws.length ≤ 12 ∧ (∀ a ∈ ws, winOk a = true) ∧ wsum ws ≤ 64 := by
 simp only [schMay, Bool.and_eq_true, decide_eq_true_eq, List.all_eq_true] at h
 exact ⟨h.1.1.1, h.1.1.2, h.1.2, h.2⟩
set_option maxRecDepth 100000 in
theorem schMay_ok (I : Nat → Prop) (A : Option Addr) (ws : List Win) (c : Nat) (w : World) (hr : RdL winV I 2 w A ws) (hc : ws.length ≤ c) (hm : c ≤ maxLen) :
  Calls Tryz.prog 225 #[.slice A ws.length c] w fun e w' => e = .returned (.bool (schMay ws)) ∧ Chg Non w w' := by
 unfold maxLen at hm
 have HR := Lib.hid hr
 clear hr
 by_cases h0 : ws.length < 1
 ·have d0 : decide ((ws.length : Int) < 1) = true := by rw [decide_eq_true_eq]; omega
  have HE : Hid (schMay ws = false) := Lib.hid (by simp [schMay]; omega)
  clear h0
  go_enter Tryz.func225, Tryz.ntmps225
  go_wp2_with fail
  go_ret
  exact ⟨ret_b HE.out.symm, Chg.refl _ _⟩
 have d0 : decide ((ws.length : Int) < 1) = false := by rw [decide_eq_false_iff_not]; omega
 by_cases h12 : 12 < ws.length
 ·have d1 : decide ((12 : Int) < (ws.length : Int)) = true := by rw [decide_eq_true_eq]; omega
  have HE : Hid (schMay ws = false) := Lib.hid (by simp [schMay]; omega)
  clear h0 h12
  go_enter Tryz.func225, Tryz.ntmps225
  go_wp2_with fail
  go_ret
  exact ⟨ret_b HE.out.symm, Chg.refl _ _⟩
 have d1 : decide ((12 : Int) < (ws.length : Int)) = false := by rw [decide_eq_false_iff_not]; omega
 have hw12 : ws.length ≤ 12 := by omega
 have hw1 : 1 ≤ ws.length := by omega
 clear h0 h12
 go_enter Tryz.func225, Tryz.ntmps225
 go_wp2_with fail
 go_loopw [16, 3] (fun iv sv wr => ∃ k : Nat, k ≤ ws.length ∧ iv = .int .i64 k ∧ sv = .int .i64 (wsum (ws.take k)) ∧ Hid (∀ i a, i < k → ws[i]? = some a → winOk a = true) ∧ Hid (Chg Non w wr)) (fun iv _ _ => ws.length - (intOf iv).toNat)
 case atStart => exact ⟨0, Nat.zero_le _, rfl, rfl, Lib.hid (fun i b h => by omega), Lib.hid (Chg.refl _ _)⟩
 case round =>
  obtain ⟨k, hk, rfl, rfl, HN, HG⟩ := hrel
  have hbd := wsum_bd k HN.out
  by_cases hlt : k < ws.length
  ·obtain ⟨a, ha⟩ : ∃ a, ws[k]? = some a := ⟨_, List.getElem?_eq_getElem hlt⟩
   obtain ⟨b, o, rfl, k0, k1, hbl, hi1, hi2⟩ := win_at HR.out HG.out ha
   have hltd : decide ((k : Int) < (ws.length : Int)) = true := by simpa using hlt
   have hsn := wsum_snoc ha
   have HA := Lib.hid (And.intro ha hsn)
   clear ha hsn
   obtain ⟨s, hs⟩ : ∃ s, wsum (ws.take k) = s := ⟨_, rfl⟩
   rw [hs] at HA hbd ⊢
   clear hs
   obtain ⟨x, y⟩ := a
   simp only at k0 k1 hi1 hi2
   unfold I64 at hi1 hi2
   by_cases hok : winOk ⟨x, y⟩ = true
   ·obtain ⟨o1, o2, o3, o4⟩ := winOk_iff.1 hok
    simp only at o1 o2 o3 o4
    have HN2 : Hid (∀ i b, i < k + 1 → ws[i]? = some b → winOk b = true) := Lib.hid (fun i b hi hb => by
      by_cases e : i = k
      · subst e
        rw [HA.out.1] at hb
        injection hb with hb
        subst hb
        exact hok
      · exact HN.out i b (by omega) hb)
    have HG2 := Lib.hid (HG.out.alloc (.cells #[.int .i64 x, .int .i64 y] 156))
    clear hok
    go_wp2_with fail
    exact ⟨⟨k + 1, by omega, by simp, by rw [HA.out.2], HN2, HG2⟩, by simp [intOf]; omega⟩
   ·have HE : Hid (schMay ws = false) := Lib.hid (by
      rw [Bool.eq_false_iff]
      intro e
      exact hok ((schMay_bd e).2.2.1 _ (List.mem_of_getElem? HA.out.1)))
    have hno : x < 1 ∨ 64 < x ∨ y < 0 ∨ 6 < y := by
     rw [winOk_iff] at hok
     simp only at hok
     omega
    have HNo := Lib.hid hno
    clear hok hno
    go_wp2_with fail
    all_goals first
     | (go_ret; exact ⟨ret_b HE.out.symm, HG.out.alloc _⟩)
     | (exfalso; have := HNo.out; omega)
  ·obtain rfl : k = ws.length := by omega
   have hltd : decide ((ws.length : Int) < (ws.length : Int)) = false := by simp
   have HE : Hid (decide (wsum ws ≤ 64) = schMay ws) := Lib.hid (by
     have ha : ws.all winOk = true := List.all_eq_true.2 (fun a ha => by
       obtain ⟨i, hi⟩ := List.getElem?_of_mem ha
       exact HN.out i a (List.getElem?_eq_some_iff.1 hi).1 hi)
     simp [schMay, ha, hw12, hw1])
   go_wp2_with fail
   go_ret
   exact ⟨ret_b HE.out, HG.out⟩
end
section
open Go.RowKit
theorem res_ct {P : Program} {fn : Func} {p q : Tmp} {ty : TypeId} (h : fn.results = #[.cell p ty, .tmp q]) (tmps : Array Value) (w : World) (g : Nat) (t : TypeId) (cs : Array Value) (fr : Nat × Nat) (d : TypeDesc) (v : Value)
  (hp : tmps.getD p undef = .pointer (some ⟨g, 0, none⟩)) (hv : tmps.getD q undef = v) (hg : w.heap[g]? = some (.cells cs t fr))
  (hu : P.underlying ty = some d) (hd : (match d with | .struct _ | .array _ _ => true | _ => false) = true) (hi : (P.info? ty).map (·.size) = some cs.size) :
  (results fn tmps).run P w = .ok (.tuple #[.agg cs, v]) w := by
 have hp' : tmps[p]?.getD undef = .pointer (some ⟨g, 0, none⟩) := by simpa using hp
 have hv' : tmps[q]?.getD undef = v := by simpa using hv
 simp [results, h, hp', hv', asAddr, run_loadVar_row w g t ty cs fr d hg hu hd hi]
theorem res_c {P : Program} {fn : Func} {p : Tmp} {ty : TypeId} (h : fn.results = #[.cell p ty]) (tmps : Array Value) (w : World) (g : Nat) (t : TypeId) (cs : Array Value) (fr : Nat × Nat) (d : TypeDesc)
  (hp : tmps.getD p undef = .pointer (some ⟨g, 0, none⟩)) (hg : w.heap[g]? = some (.cells cs t fr))
  (hu : P.underlying ty = some d) (hd : (match d with | .struct _ | .array _ _ => true | _ => false) = true) (hi : (P.info? ty).map (·.size) = some cs.size) :
  (results fn tmps).run P w = .ok (.agg cs) w := by
 have hp' : tmps[p]?.getD undef = .pointer (some ⟨g, 0, none⟩) := by simpa using hp
 simp [results, h, hp', asAddr, run_loadVar_row w g t ty cs fr d hg hu hd hi]
theorem blk_set {w : World} {g : Nat} {cs : Array Value} {t : TypeId} {fr : Nat × Nat} (i : Nat) (u : Value) (h : w.heap[g]? = some (.cells cs t fr)) : (w.setCell ⟨g, i, none⟩ u).heap[g]? = some (.cells (cs.setIfInBounds i u) t fr) := by
 have hlt := (Array.getElem?_eq_some_iff.1 h).1
 have h' : w.heap[g] = .cells cs t fr := by simpa [Array.getElem?_eq_getElem hlt] using h
 show (w.heap.modify g _)[g]? = _
 rw [Array.getElem?_eq_getElem (by simpa using hlt), Array.getElem_modify_self, h']
 rfl
theorem chg_set (w : World) (b i : Nat) (v : Value) : Chg (fun k => k = b) w (w.setCell ⟨b, i, none⟩ v) := (Chg.refl (fun k => k = b) w).setCell (p := ⟨b, i, none⟩) (.inl rfl) v
theorem blk_keep {S : Nat → Prop} {w w' : World} {g : Nat} {o : Obj} (h : w.heap[g]? = some o) (hg : Chg S w w') (hn : ¬ S g) : w'.heap[g]? = some o := (hg.block _ (Array.getElem?_eq_some_iff.1 h).1 hn).trans h
theorem blk_cell {w : World} {g : Nat} {cs : Array Value} {t : TypeId} {fr : Nat × Nat} (h : w.heap[g]? = some (.cells cs t fr)) (i : Nat) {v : Value} (hv : cs[i]? = some v) : w.cell? ⟨g, i, none⟩ = some v := by rw [cell_of_row _ _ _ _ _ _ h]; exact hv
theorem blk_free {w : World} {g : Nat} {cs : Array Value} {t : TypeId} (h : w.heap[g]? = some (.cells cs t (0, 0))) (i : Nat) : w.frozen? ⟨g, i, none⟩ = false := frozen_of_row _ _ _ _ _ h
theorem blk_range {w : World} {g : Nat} {cs : Array Value} {t : TypeId} {fr : Nat × Nat} (h : w.heap[g]? = some (.cells cs t fr)) : w.rangeAt g 0 cs.toList := fun j v hv => by
 rw [cell_of_row _ _ _ _ _ _ h, Nat.zero_add]
 simpa using hv
theorem blk_lt {w : World} {g : Nat} {o : Obj} (h : w.heap[g]? = some o) : g < w.heap.size := (Array.getElem?_eq_some_iff.1 h).1
theorem blk_new (w : World) (o : Obj) : (w.alloc o).heap[w.heap.size]? = some o := heap_alloc_new w o
theorem wpList_valA {P : Program} {ops : Array Oper} {rest : List Oper} {o : Oper} {a : Act} {w : World} {Q : Exit → Act → World → Prop} (hgd : o.guard = none) (d : Option Tmp) (v : Value) (hdst : o.dst = d) (he : (execOp a.eval o).run P w = .ok (.value v) w) (h : wpList P ops Q rest (a.put d v) w) : wpList P ops Q (o :: rest) a w := by
 subst hdst
 refine wpList_plain hgd fun K hK => ?_
 unfold Oper.wp
 rw [he]
 exact hK _ _ h
theorem blk_call {w w' : World} {o : Obj} (hg : Chg Non (w.alloc o) w') : w'.heap[w.heap.size]? = some o := blk_keep (blk_new w o) hg (fun e => e)
theorem blk_call2 {w w' : World} {o1 o2 : Obj} (hg : Chg Non ((w.alloc o1).alloc o2) w') : w'.heap[w.heap.size]? = some o1 ∧ w'.heap[w.heap.size + 1]? = some o2 ∧ w.heap.size + 1 < w'.heap.size ∧ Chg Non w w' := by
 have h2 : w'.heap[w.heap.size + 1]? = some o2 := by have := blk_call hg; simpa using this
 exact ⟨blk_keep (blk_keep (blk_new w o1) ((Chg.refl Non _).alloc o2) (fun e => e)) hg (fun e => e), h2, blk_lt h2, (((Chg.refl Non w).alloc _).alloc _).then_non hg⟩
theorem blk_call3 {w w' : World} {o1 o2 o3 : Obj} (hg : Chg Non (((w.alloc o1).alloc o2).alloc o3) w') : w'.heap[w.heap.size]? = some o1 ∧ w'.heap[w.heap.size + 1]? = some o2 ∧ w'.heap[w.heap.size + 1 + 1]? = some o3 ∧ w.heap.size + 1 + 1 < w'.heap.size ∧ Chg Non w w' := by
 have h3 : w'.heap[w.heap.size + 1 + 1]? = some o3 := by have := blk_call hg; simpa using this
 obtain ⟨h1, h2, _, hw⟩ := blk_call2 (w := w) (o1 := o1) (o2 := o2) (w' := w') (((Chg.refl Non _).alloc o3).then_non hg)
 exact ⟨h1, h2, h3, blk_lt h3, hw⟩
end
section
open Go.RowKit
structure HoleV (p : Prop) : Prop where
 out : p
theorem Vm_stop {p : Prop} (h : HoleV p) : p := h.out
set_option maxRecDepth 100000 in
theorem run_appB (w : World) (ty : TypeId) (B : Nat) (v : Value) (l : List UInt8) (hown : OwnR B w v l) (A : Option Addr) (c : Nat) (y : List UInt8) (hr : Rd w A y) (hl : l.length ≤ 1000000) (hy : y.length ≤ 140737488355328) (hB : B ≤ w.heap.size) (hly : l.length + y.length ≤ 140737488355328) :
  ∃ v' w', (Builtin.append_ #[29, 29] ty #[v, .slice A y.length c]).run Tryz.prog w = .ok v' w' ∧ OwnR B w' v' (l ++ y) ∧ w.grownBy w' v.ownBlock ∧ (v'.ownBlock = v.ownBlock ∨ v'.ownBlock = some w.heap.size) := by
 obtain ⟨i0, hi0, hz0, hs0, hb0⟩ := info_parts info_u8
 cases A with
 | none =>
  have hy0 : y = [] := by
   cases y with
   | nil => rfl
   | cons x r => obtain ⟨b, o, e, _⟩ := hr 0 x rfl; cases e
  subst hy0
  refine ⟨v, w, ?_, by simpa using hown, World.grownBy.refl w _, .inl rfl⟩
  rcases hown.2 with ⟨rfl, _⟩ | ⟨g, cap, cur, rfl, _, _, hnc, _⟩
  ·simp [Builtin.append_, run_underlying Tryz.underlying29, sizeOf, typeInfo, hi0, Builtin.lenOf, Builtin.firstCells]
  ·simp [Builtin.append_, run_underlying Tryz.underlying29, sizeOf, typeInfo, hi0, Builtin.lenOf, Builtin.firstCells, hnc, storeCells]
 | some ad =>
  obtain ⟨v', w', h1, h2, h3, _, h5⟩ := run_append_own_at (P := Tryz.prog) w B 29 ty 5 i0 _ 1 1 Tryz.underlying29 hi0 hz0 hs0 hb0 rfl (by omega) v l.length (l.map bv) hown ad y.length c (y.map bv) (by simp) (by
    intro j u hu
    rw [List.getElem?_map] at hu
    obtain ⟨z, hz, rfl⟩ := Option.map_eq_some_iff.1 hu
    obtain ⟨b, o, e, hc⟩ := hr j z hz
    injection e with e
    subst e
    rw [plain_add]
    exact hc) (by
    intro u hu
    obtain ⟨z, _, rfl⟩ := List.mem_map.1 hu
    rfl) (by unfold maxLen; omega) (by omega) hB
  exact ⟨v', w', h1, by unfold OwnR; rw [List.length_append, List.map_append]; exact h2, h3, h5⟩
theorem wpList_appB {ops : Array Oper} {rest : List Oper} {o : Oper} {a : Act} {w : World} {Q : Exit → Act → World → Prop} (hgd : o.guard = none) (s x : Operand)
  (ho : o.op = .call { callee := .builtin .append, args := #[s, x], argTypes := #[29, 29] })
  (B : Nat) (v : Value) (l : List UInt8) (hs : a.eval s = v) (hown : OwnR B w v l) (A : Option Addr) (c : Nat) (y : List UInt8) (hx : a.eval x = .slice A y.length c) (hr : Rd w A y)
  (hl : l.length ≤ 1000000) (hy : y.length ≤ 140737488355328) (hB : B ≤ w.heap.size) (hly : l.length + y.length ≤ 140737488355328)
  (h : ∀ v2 w2, OwnR B w2 v2 (l ++ y) → Chg (fun k => v.ownBlock = some k) w w2 → (v2.ownBlock = v.ownBlock ∨ v2.ownBlock = some w.heap.size) → wpList Tryz.prog ops Q rest (a.put o.dst v2) w2) : wpList Tryz.prog ops Q (o :: rest) a w := by
 obtain ⟨v', w', h1, h2, h3, h4⟩ := run_appB w o.type B v l hown A c y hr hl hy hB hly
 refine wpList_plain hgd fun K hK => ?_
 unfold Oper.wp execOp
 simp only [ho, resolve, invoke, builtin, Sem.run_bind, Sem.run_pure, Result.andThen_ok, List.map_toArray, List.map_cons, List.map_nil, hs, hx, h1]
 exact hK _ _ (h v' w' h2 ((Chg.refl _ w).grown h3 fun g' hg' => .inl hg') h4)
theorem own_emptyR (w : World) : OwnR w.heap.size (w.alloc (.cells #[] 5)) (.slice (some ⟨w.heap.size, 0, none⟩) 0 0) [] :=
 ⟨rfl, .inr ⟨w.heap.size, 0, #[], rfl, Nat.le_refl _, heap_alloc_new _ _, Nat.le_refl _, by simp, rfl, rfl⟩⟩
theorem OwnR.own {B : Nat} {w : World} {v : Value} {l : List UInt8} (h : OwnR B w v l) : ∃ A c, v = .slice A l.length c ∧ l.length ≤ c ∧ c ≤ maxLen ∧ Own B w A l := by
 rcases h.2 with ⟨rfl, h0⟩ | ⟨g, cap, cur, rfl, hB, hg, h1, h2, h3, h4⟩
 ·have : l = [] := List.eq_nil_of_length_eq_zero h0
  subst this
  exact ⟨none, 0, rfl, Nat.le_refl _, by simp, Own.nil _ _ _⟩
 ·refine ⟨_, cap, rfl, h1, h2, fun i x hx => ⟨g, 0, rfl, hB, ?_, ?_⟩⟩
  ·have := h.cells (g := g) rfl i (bv x) (by rw [List.getElem?_map, hx]; rfl)
   rw [plain_add] at this
   exact this
  ·simp only [World.frozen?]
   rw [hg]
   simp
theorem eql_nil (B : Option Addr) (n c : Nat) (W : World) : (binOp .eql 29 (.slice B n c) (.slice none 0 0)).run Tryz.prog W = .ok (.bool B.isNone) W := by
 simp only [binOp]
 simp [run_equal_slice_nil W _ _ B n c Tryz.underlying29]
set_option maxRecDepth 100000 in
theorem SlClone_ok (A : Option Addr) (l : List UInt8) (c : Nat) (w : World) (h : Rd w A l) (hl : l.length ≤ 140737488355328) :
  Calls Tryz.prog 187 #[.slice A l.length c] w (RetB w l) := by
 have HR := Lib.hid h
 have hnil : ∀ (B : Option Addr) (n c : Nat) (W : World), (binOp .eql 29 (.slice B n c) (.slice none 0 0)).run Tryz.prog W = .ok (.bool B.isNone) W := fun B n c W => eql_nil B n c W
 cases A with
 | none =>
  have hl0 : l = [] := by
   cases l with
   | nil => rfl
   | cons x r => obtain ⟨b, o, e, _⟩ := h 0 x rfl; cases e
  subst hl0
  clear h
  go_enter Tryz.func187, Tryz.ntmps187
  go_wp2_with fail
  go_ret
  exact ⟨none, 0, rfl, Nat.le_refl _, by simp, Own.nil _ _ _, Chg.refl _ _⟩
 | some ad =>
  clear h
  go_enter Tryz.func187, Tryz.ntmps187
  go_wp2_with (refine sel (some 7) (.call _) ?_; refine Vm_stop ?_)
  refine HoleV.mk ?_
  refine wpList_appB rfl (.tmp 5) (.tmp 6) rfl w.heap.size (.slice (some ⟨w.heap.size, 0, none⟩) 0 0) [] rfl (own_emptyR w) (some ad) c l rfl (HR.out.non ((Chg.refl Non _).alloc _)) (by simp) hl (by simp) (by simpa using hl) ?_
  intro v2 w2 ho hg hat
  obtain ⟨A2, c2, rfl, h1, h2, h3⟩ := OwnR.own ho
  have H3 := Lib.hid h3
  have HG := Lib.hid (((Chg.refl Non w).alloc _).then_new hg (fun x hx => (own_emptyR w).ge hx))
  clear h3 hg hat ho
  go_wp2_with fail
  go_ret
  exact ⟨A2, c2, rfl, h1, h2, H3.out, HG.out⟩
end
section
open Go.RowKit
theorem mk_func : ∀ (fn : Fn) (first cap : Array Value) (w : World), (Instr.makeFunc fn first cap).run Tryz.prog w = .ok (.func fn first cap) w := fun _ _ _ _ => rfl
theorem pn_at {I : Nat → Prop} {w w' : World} {A : Option Addr} {ps : List Pn} (hr : RdL (pnV I) I 5 w A ps) (hg : Chg Non w w') {k : Nat} {a : Pn} (hk : ps[k]? = some a) :
  ∃ b o m, A = some ⟨b, o, none⟩ ∧ w'.cell? ⟨b, o + k * 5, none⟩ = some (.int .i64 a.id) ∧ w'.cell? ⟨b, o + k * 5 + 1, none⟩ = some (.int .i64 a.base) ∧ w'.cell? ⟨b, o + k * 5 + 2, none⟩ = some (.int .i64 a.size) ∧ w'.cell? ⟨b, o + k * 5 + 3, none⟩ = some (.bool a.keep) ∧ w'.cell? ⟨b, o + k * 5 + 4, none⟩ = some m ∧
   BytesV I w' a.img m ∧ I64 a.id ∧ I64 a.base ∧ I64 a.size ∧ a.img.length ≤ 140737488351232 ∧ b < w'.heap.size := by
 obtain ⟨b, o, vs, rfl, _, hl, hc, m, rfl, hb, ⟨h1, h2, h3⟩, h4⟩ := hr k a hk
 have h0 := hg.cell_some (hc 0 (.int .i64 a.id) rfl) (fun e => e)
 exact ⟨b, o, m, rfl, h0, hg.cell_some (hc 1 _ rfl) (fun e => e), hg.cell_some (hc 2 _ rfl) (fun e => e), hg.cell_some (hc 3 _ rfl) (fun e => e), hg.cell_some (hc 4 _ rfl) (fun e => e), hb.non hg, h1, h2, h3, h4, lt_of_cell h0⟩
theorem ch_at {I : Nat → Prop} {w w' : World} {A : Option Addr} {cs : List Ch} (hr : RdL chV I 5 w A cs) (hg : Chg Non w w') {k : Nat} {a : Ch} (hk : cs[k]? = some a) :
  ∃ b o, A = some ⟨b, o, none⟩ ∧ w'.cell? ⟨b, o + k * 5, none⟩ = some (.int .i64 a.id) ∧ w'.cell? ⟨b, o + k * 5 + 1, none⟩ = some (.int .i64 a.src) ∧ w'.cell? ⟨b, o + k * 5 + 2, none⟩ = some (.int .i64 a.dst) ∧ w'.cell? ⟨b, o + k * 5 + 3, none⟩ = some (.int .i64 a.cap) ∧ w'.cell? ⟨b, o + k * 5 + 4, none⟩ = some (.int .i64 a.size) ∧ a.Bd ∧ b < w'.heap.size := by
 obtain ⟨b, o, vs, rfl, _, hl, hc, rfl, h1⟩ := hr k a hk
 have h0 := hg.cell_some (hc 0 (.int .i64 a.id) rfl) (fun e => e)
 exact ⟨b, o, rfl, h0, hg.cell_some (hc 1 _ rfl) (fun e => e), hg.cell_some (hc 2 _ rfl) (fun e => e), hg.cell_some (hc 3 _ rfl) (fun e => e), hg.cell_some (hc 4 _ rfl) (fun e => e), h1, lt_of_cell h0⟩
theorem pnV_non {I : Nat → Prop} : ∀ W W' a vs, Chg Non W W' → pnV I W a vs → pnV I W' a vs := fun _ _ _ _ hg h => h.keep hg (fun _ _ e => e)
theorem part1_ok (id : Int) (g : Nat) (m : Value) (a : Pn) (w : World) (h : w.cell? ⟨g, 0, none⟩ = some (.int .i64 id)) :
  Calls Tryz.prog 243 #[.agg #[.int .i64 a.id, .int .i64 a.base, .int .i64 a.size, .bool a.keep, m], .pointer (some ⟨g, 0, none⟩)] w fun e w' => e = .returned (.bool (a.id == id)) ∧ Chg Non w w' := by
 have hlt : g < w.heap.size := lt_of_cell h
 obtain ⟨x, b, s, k, i⟩ := a
 simp only
 go_enter Tryz.func243, Tryz.ntmps243
 go_wp2_with fail
 go_ret
 exact ⟨rfl, (Chg.refl _ _).alloc _⟩
def PartP (ps : List Pn) (id : Int) (w : World) (e : Ending) (w' : World) : Prop :=
 (∃ (k : Nat) (a : Pn) (m : Value), ps[k]? = some a ∧ idxOf (fun p : Pn => p.id == id) ps = k ∧ e = .returned (.tuple #[.agg #[.int .i64 a.id, .int .i64 a.base, .int .i64 a.size, .bool a.keep, m], .bool true]) ∧ BytesV (From w.heap.size) w' a.img m ∧ Chg Non w w') ∨
 (idxOf (fun p : Pn => p.id == id) ps = -1 ∧ e = .returned (.tuple #[.agg #[.int .i64 0, .int .i64 0, .int .i64 0, .bool false, .slice none 0 0], .bool false]) ∧ Chg Non w w')
theorem idx_get {α : Type} {p : α → Bool} {l : List α} {k : Nat} (h : idxOf p l = (k : Int)) : ∃ a, l[k]? = some a ∧ p a = true := by
 unfold idxOf at h
 cases hf : l.findIdx? p with
 | none => rw [hf] at h; simp at h
 | some i =>
  rw [hf] at h
  simp only at h
  obtain rfl : i = k := by omega
  obtain ⟨hi, hp, _⟩ := List.findIdx?_eq_some_iff_getElem.1 hf
  exact ⟨l[i], List.getElem?_eq_getElem hi, hp⟩
set_option maxRecDepth 100000 in
theorem cPart_ok (I : Nat → Prop) (va vd : Value) (A : Option Addr) (ps : List Pn) (c : Nat) (id : Int) (w : World) (hr : RdL (pnV I) I 5 w A ps) (hc : ps.length ≤ c) (hm : c ≤ maxLen) :
  Calls Tryz.prog 237 #[.agg #[va, .slice A ps.length c, vd], .int .i64 id] w (PartP ps id w) := by
 have HI := Lib.hid (fun W (hg : Chg Non w W) x (hq : Asks (pnV I) aggV ps (fun p : Pn => p.id == id) W 243 [x]) => idxPart (pnV I) I pnV_non (fun p : Pn => p.id == id) x A ps c W (hr.non hg (fun a vs h => pnV_non _ _ _ _ hg h)) hq hc hm)
 have HQ := Lib.hid (fun W (hcell : W.cell? ⟨w.heap.size + 1, 0, none⟩ = some (.int .i64 id)) => show Asks (pnV I) aggV ps (fun p : Pn => p.id == id) W 243 [.pointer (some ⟨w.heap.size + 1, 0, none⟩)] from by
   rintro W' a vs hg ha ⟨m, rfl, _⟩
   exact part1_ok id (w.heap.size + 1) m a W' (hg.cell_some hcell (fun e => e)))
 have HR := Lib.hid hr
 have hmf := mk_func
 unfold maxLen at hm
 clear hr
 obtain ⟨j, hj⟩ : ∃ j, idxOf (fun p : Pn => p.id == id) ps = j := ⟨_, rfl⟩
 have hjb := idx_bd (fun p : Pn => p.id == id) ps
 have HJ := Lib.hid hj
 simp only [hj] at HI hjb
 clear hj
 go_enter Tryz.func237, Tryz.ntmps237
 go_wp2_with fail
 refine (HI.out _ (((((Chg.refl Non w).alloc _).alloc _).alloc _)) _ (HQ.out _ ?hcell)).mono ?_
 case hcell =>
  rw [World.cell?_alloc_old _ _ _ (by simp)]
  simp
 rintro e u ⟨rfl, hg⟩
 obtain ⟨b0, b1, b2, hlt, hgw⟩ := blk_call3 hg
 have HB2 := Lib.hid b2
 have HGw := Lib.hid hgw
 have k1 := blk_cell b0 1 (v := .slice A ps.length c) rfl
 clear b0 b1 b2 hg hgw
 by_cases hneg : j < 0
 ·have hj1 : j = -1 := by omega
  have hd : decide (j < 0) = true := by simpa using hneg
  have HJ1 := Lib.hid hj1
  clear hneg hj1
  have r0 := blk_cell HB2.out 0 (v := .int .i64 0) rfl
  have r1 := blk_cell HB2.out 1 (v := .int .i64 0) rfl
  have r2 := blk_cell HB2.out 2 (v := .int .i64 0) rfl
  have r3 := blk_cell HB2.out 3 (v := .bool false) rfl
  have r4 := blk_cell HB2.out 4 (v := .slice none 0 0) rfl
  have f0 := blk_free HB2.out 0
  have f1 := blk_free HB2.out 1
  have f2 := blk_free HB2.out 2
  have f3 := blk_free HB2.out 3
  have f4 := blk_free HB2.out 4
  go_wp2_with fail
  have hbW := blk_set 4 (.slice none 0 0) (blk_set 3 (.bool false) (blk_set 2 (.int .i64 0) (blk_set 1 (.int .i64 0) (blk_set 0 (.int .i64 0) HB2.out))))
  have hgW := HGw.out.then_new ((((chg_set u (w.heap.size + 1 + 1) 0 (.int .i64 0)).trans_same (chg_set _ _ 1 (.int .i64 0))).trans_same (chg_set _ _ 2 (.int .i64 0))).trans_same ((chg_set _ _ 3 (.bool false)).trans_same (chg_set _ _ 4 (.slice none 0 0)))) (fun x e => by omega)
  exact bodyPost_ret (res_ct Tryz.results237 _ _ (w.heap.size + 1 + 1) 161 _ (0, 0) _ (.bool false) (by kernel_rfl) (by kernel_rfl) hbW Tryz.underlying161 rfl (by kernel_rfl)) (by kernel_rfl) (Or.inr ⟨by rw [HJ.out, HJ1.out], rfl, hgW⟩)
 ·obtain ⟨k, rfl⟩ : ∃ k : Nat, j = k := ⟨j.toNat, by omega⟩
  have hd : decide ((k : Int) < 0) = false := by rw [decide_eq_false_iff_not]; exact hneg
  obtain ⟨a, ha, hpa⟩ := idx_get HJ.out
  have hkl := (List.getElem?_eq_some_iff.1 ha).1
  obtain ⟨b, o, m, rfl, q0, q1, q2, q3, q4, hbv, i1, i2, i3, i4, hbl⟩ := pn_at HR.out HGw.out ha
  obtain ⟨A2, c2, rfl, g1, g2, g3, g4⟩ := hbv
  have hk0 : (0 : Int) ≤ (k : Int) := by omega
  have hki : (k : Int) < (ps.length : Int) := by omega
  have HA := Lib.hid ha
  have HCl := Lib.hid (fun W (hg : Chg Non u W) => SlClone_ok A2 a.img c2 W (g3.non hg) (by omega))
  clear ha hpa g3 g4 hneg
  obtain ⟨x, bs, s, kp, im⟩ := a
  simp only at q0 q1 q2 q3 q4 i1 i2 i3 i4 g1 HCl
  go_wp2_with fail
  refine (HCl.out _ ((Chg.refl Non u).alloc _)).mono ?_
  rintro e v ⟨A3, c3, rfl, n1, n2, n3, n4⟩
  have hbl7 := blk_call n4
  have hg3 := chg_set v u.heap.size 4 (.slice A3 im.length c3)
  have hb7 := blk_set 4 (.slice A3 im.length c3) hbl7
  simp only [List.setIfInBounds_toArray, List.set_cons_zero, List.set_cons_succ] at hb7
  have hv1 : Chg Non u v := ((Chg.refl Non u).alloc _).then_non n4
  have hr2 := blk_keep (blk_keep HB2.out hv1 (fun e => e)) hg3 (by omega)
  have hby : BytesV (From u.heap.size) (v.setCell ⟨u.heap.size, 4, none⟩ (.slice A3 im.length c3)) im (.slice A3 im.length c3) :=
   ⟨A3, c3, rfl, n1, n2, n3.rd.keep hg3 (fun b o e hl hs => by subst e; have := n3.ge hl; simp at this; omega), fun b o e hl => by subst e; have := n3.ge hl; simp at this; show u.heap.size ≤ b; omega⟩
  have p4 := blk_cell hbl7 4 (v := .slice A2 im.length c2) rfl
  have pf4 := blk_free hbl7 4
  have HB7 := Lib.hid hb7
  have HR2 := Lib.hid hr2
  have HBy := Lib.hid hby
  have HG3 := Lib.hid ((HGw.out.then_non hv1).then_new hg3 (fun x e => by omega))
  clear hbl7 hg3 hb7 hr2 hby n3 n4 hv1
  go_wp2_with (first
    | (refine sel (some 24) (.load 161 (.tmp 7)) ?_
       refine wpList_load_mid rfl 161 (.tmp 7) rfl u.heap.size 0 rfl [.int .i64 x, .int .i64 bs, .int .i64 s, .bool kp, .slice A3 im.length c3] _ (blk_range HB7.out) Tryz.underlying161 rfl (by kernel_rfl) ?_)
    | (refine sel none (.store 161 (.tmp 4) (.tmp 24)) ?_
       refine wpList_store_rowA rfl 161 (.tmp 4) (.tmp 24) rfl (w.heap.size + 1 + 1) #[.int .i64 x, .int .i64 bs, .int .i64 s, .bool kp, .slice A3 im.length c3] rfl rfl 161 _ HR2.out (by kernel_rfl) rfl (by simp [Value.oneCell']) ?_
       intro W hgW hbW
       have HBW := Lib.hid hbW
       have HGW := Lib.hid (HG3.out.then_new hgW (fun x e => by omega))
       have HByW := Lib.hid (HBy.out.keep hgW (fun b hb e => by have hb : u.heap.size ≤ b := hb; omega))
       clear hgW hbW))
  exact bodyPost_ret (res_ct Tryz.results237 _ _ (w.heap.size + 1 + 1) 161 _ (0, 0) _ (.bool true) (by kernel_rfl) (by kernel_rfl) HBW.out Tryz.underlying161 rfl (by kernel_rfl)) (by kernel_rfl) (Or.inl ⟨k, ⟨x, bs, s, kp, im⟩, .slice A3 im.length c3, HA.out, HJ.out, rfl, HByW.out.mono (fun b hb => by have hb : u.heap.size ≤ b := hb; show w.heap.size ≤ b; omega), HGW.out⟩)
end
end Go.Proofs.YtkgnlobabknkcaaGreat
