/- BootNil, part 4 of 14: contracts of the functions that it reaches, and the laws that they need, merged and shortened (from my texts XIdx, XSch, XRes, XVmA, XValB, XValC). -/
import Derived.Test.YtajkajgifigmbaaGreatMgBootNilB
import Derived.Test.YtajkajgifigmbaaGreatMgBootNilC
import Derived.Maps.AppendAt
import Derived.Lib.AppendZerosOnto
import Derived.Laws.Cover3
namespace Go.Proofs.YtajkajgifigmbaaGreat
set_option linter.unusedVariables false
set_option linter.unusedSimpArgs false
set_option maxHeartbeats 8000000
set_option maxRecDepth 100000
section
open Go.RowKit
def idxOf {α : Type} (p : α → Bool) (l : List α) : Int := match l.findIdx? p with | some i => (i : Int) | none => -1
theorem idx_some {α : Type} {p : α → Bool} {l : List α} {k : Nat} {a : α} (ha : l[k]? = some a) (hp : p a = true) (hn : ∀ i b, i < k → l[i]? = some b → p b = false) : idxOf p l = k := by
 have h : l.findIdx? p = some k := by
  obtain ⟨hk, e⟩ := List.getElem?_eq_some_iff.1 ha
  rw [List.findIdx?_eq_some_iff_getElem]
  exact ⟨hk, by rw [e]; exact hp, fun j hj => by simp [hn j _ hj (List.getElem?_eq_getElem (by omega))]⟩
 rw [idxOf, h]
theorem idx_none {α : Type} {p : α → Bool} {l : List α} (hn : ∀ i b, i < l.length → l[i]? = some b → p b = false) : idxOf p l = -1 := by
 have h : l.findIdx? p = none := by
  rw [List.findIdx?_eq_none_iff]
  intro x hx
  obtain ⟨i, hi⟩ := List.getElem?_of_mem hx
  exact hn i x (List.getElem?_eq_some_iff.1 hi).1 hi
 rw [idxOf, h]
theorem idx_ge {α : Type} (p : α → Bool) (l : List α) : decide (0 ≤ idxOf p l) = l.any p := by
 rw [Bool.eq_iff_iff, decide_eq_true_eq, List.any_eq_true]
 unfold idxOf
 constructor
 ·intro h
  cases hf : l.findIdx? p with
  | none => rw [hf] at h; simp at h
  | some i =>
   obtain ⟨hi, hp, _⟩ := List.findIdx?_eq_some_iff_getElem.1 hf
   exact ⟨l[i], List.getElem_mem hi, hp⟩
 ·rintro ⟨x, hx, hp⟩
  cases hf : l.findIdx? p with
  | none => rw [List.findIdx?_eq_none_iff] at hf; rw [hf x hx] at hp; cases hp
  | some i => simp
def Asks {α : Type} (R : World → α → List Value → Prop) (V : List Value → Value) (l : List α) (p : α → Bool) (w : World) (K : Nat) (cap : List Value) : Prop :=
 ∀ W a vs, Chg Non w W → a ∈ l → R W a vs → Calls Tryz.prog K (V vs :: cap).toArray W fun e W' => e = .returned (.bool (p a)) ∧ Chg Non W W'
def aggV (vs : List Value) : Value := .agg vs.toArray
theorem idx_bd {α : Type} (p : α → Bool) (l : List α) : -1 ≤ idxOf p l := by
 unfold idxOf
 split <;> omega
theorem idxWindows {α : Type} (R : World → α → List Value → Prop) (I : Nat → Prop) (hm : ∀ W W' a vs, Chg Non W W' → R W a vs → R W' a vs) (p : α → Bool) (x : Value) (A : Option Addr) (l : List α) (c : Nat) (w : World)
  (hr : RdL R I 2 w A l) (hf : Asks R aggV l p w 355 [x]) (hc : l.length ≤ c) (hcm : c ≤ maxLen) :
  Calls Tryz.prog 371 #[.slice A l.length c, .func (.func 355) #[] #[x]] w fun e w' => e = .returned (.int .i64 (idxOf p l)) ∧ Chg Non w w' := by
 unfold maxLen at hcm
 have HR := Lh hr
 have HF := Lh hf
 clear hr hf
 go_enter Tryz.func371, Tryz.ntmps371
 go_wp2_with fail
 go_loopw [8] (fun iv wr => ∃ k : Nat, k ≤ l.length ∧ iv = .int .i64 k ∧ Hid (∀ i b, i < k → l[i]? = some b → p b = false) ∧ Hid (Chg Non w wr)) (fun iv _ => l.length - (intOf iv).toNat)
 case atStart => exact ⟨0, Nat.zero_le _, rfl, Lh (fun i b h => by omega), Lh (Chg.refl _ _)⟩
 case round =>
  obtain ⟨k, hk, rfl, HN, HG⟩ := hrel
  by_cases hlt : k < l.length
  ·obtain ⟨a, ha⟩ : ∃ a, l[k]? = some a := ⟨_, List.getElem?_eq_getElem hlt⟩
   obtain ⟨b, o, vs, rfl, _, hlen, hcell0, hR⟩ := HR.out k a ha
   have hcell := range_keepS hcell0 HG.out (fun e => e)
   have HK := Lh (HF.out wr a vs HG.out (List.mem_of_getElem? ha) (hm _ _ _ _ HG.out hR))
   have hltd : decide ((k : Int) < (l.length : Int)) = true := by simpa using hlt
   have HA := Lh ha
   clear ha hR hcell0
   have HC := Lh hcell
   have HL := Lh hlen
   clear hcell hlen
   go_wp2_with (refine sel (some 15) (.load 211 (.tmp 14)) ?_; refine wpList_load_mid rfl 211 (.tmp 14) rfl b (o + k * 2) rfl vs _ HC.out Tryz.underlying211 rfl (by rw [HL.out]; kernel_rfl) ?_)
   refine HK.out.mono ?_
   rintro e u ⟨rfl, hg⟩
   have HG2 := Lh (HG.out.then_non hg)
   clear hg
   cases hp : p a with
   | true =>
    go_wp2_with fail
    go_ret
    exact ⟨ret_i (idx_some HA.out hp HN.out).symm, HG2.out⟩
   | false =>
    have HN2 : Hid (∀ i b, i < k + 1 → l[i]? = some b → p b = false) := Lh (fun i b hi hb => by
      by_cases e : i = k
      · subst e
        rw [HA.out] at hb
        injection hb with hb
        subst hb
        exact hp
      · exact HN.out i b (by omega) hb)
    have HP := Lh hp
    clear hp
    go_wp2_with fail
    exact ⟨⟨k + 1, by omega, by simp, HN2, HG2⟩, by simp [intOf]; omega⟩
  ·obtain rfl : k = l.length := by omega
   have hltd : decide ((l.length : Int) < (l.length : Int)) = false := by simp
   go_wp2_with fail
   go_ret
   exact ⟨ret_i (idx_none HN.out).symm, HG.out⟩
theorem anyWindows {α : Type} (R : World → α → List Value → Prop) (I : Nat → Prop) (hm : ∀ W W' a vs, Chg Non W W' → R W a vs → R W' a vs) (p : α → Bool) (x : Value) (A : Option Addr) (l : List α) (c : Nat) (w : World)
  (hr : RdL R I 2 w A l) (hf : Asks R aggV l p w 355 [x]) (hc : l.length ≤ c) (hcm : c ≤ maxLen) :
  Calls Tryz.prog 354 #[.slice A l.length c, .func (.func 355) #[] #[x]] w fun e w' => e = .returned (.bool (l.any p)) ∧ Chg Non w w' := by
 have HI := Lh (idxWindows R I hm p x A l c w hr hf hc hcm)
 have HB := Lh (idx_ge p l)
 obtain ⟨j, hj⟩ : ∃ j, idxOf p l = j := ⟨_, rfl⟩
 rw [hj] at HI HB
 clear hr hf hj
 go_enter Tryz.func354, Tryz.ntmps354
 go_wp2_with fail
 refine HI.out.mono ?_
 rintro e u ⟨rfl, hg⟩
 go_wp2_with fail
 go_ret
 exact ⟨ret_b HB.out, hg⟩
theorem idxPart {α : Type} (R : World → α → List Value → Prop) (I : Nat → Prop) (hm : ∀ W W' a vs, Chg Non W W' → R W a vs → R W' a vs) (p : α → Bool) (x : Value) (A : Option Addr) (l : List α) (c : Nat) (w : World)
  (hr : RdL R I 5 w A l) (hf : Asks R aggV l p w 365 [x]) (hc : l.length ≤ c) (hcm : c ≤ maxLen) :
  Calls Tryz.prog 314 #[.slice A l.length c, .func (.func 365) #[] #[x]] w fun e w' => e = .returned (.int .i64 (idxOf p l)) ∧ Chg Non w w' := by
 unfold maxLen at hcm
 have HR := Lh hr
 have HF := Lh hf
 clear hr hf
 go_enter Tryz.func314, Tryz.ntmps314
 go_wp2_with fail
 go_loopw [8] (fun iv wr => ∃ k : Nat, k ≤ l.length ∧ iv = .int .i64 k ∧ Hid (∀ i b, i < k → l[i]? = some b → p b = false) ∧ Hid (Chg Non w wr)) (fun iv _ => l.length - (intOf iv).toNat)
 case atStart => exact ⟨0, Nat.zero_le _, rfl, Lh (fun i b h => by omega), Lh (Chg.refl _ _)⟩
 case round =>
  obtain ⟨k, hk, rfl, HN, HG⟩ := hrel
  by_cases hlt : k < l.length
  ·obtain ⟨a, ha⟩ : ∃ a, l[k]? = some a := ⟨_, List.getElem?_eq_getElem hlt⟩
   obtain ⟨b, o, vs, rfl, _, hlen, hcell0, hR⟩ := HR.out k a ha
   have hcell := range_keepS hcell0 HG.out (fun e => e)
   have HK := Lh (HF.out wr a vs HG.out (List.mem_of_getElem? ha) (hm _ _ _ _ HG.out hR))
   have hltd : decide ((k : Int) < (l.length : Int)) = true := by simpa using hlt
   have HA := Lh ha
   clear ha hR hcell0
   have HC := Lh hcell
   have HL := Lh hlen
   clear hcell hlen
   go_wp2_with (refine sel (some 15) (.load 113 (.tmp 14)) ?_; refine wpList_load_mid rfl 113 (.tmp 14) rfl b (o + k * 5) rfl vs _ HC.out Tryz.underlying113 rfl (by rw [HL.out]; kernel_rfl) ?_)
   refine HK.out.mono ?_
   rintro e u ⟨rfl, hg⟩
   have HG2 := Lh (HG.out.then_non hg)
   clear hg
   cases hp : p a with
   | true =>
    go_wp2_with fail
    go_ret
    exact ⟨ret_i (idx_some HA.out hp HN.out).symm, HG2.out⟩
   | false =>
    have HN2 : Hid (∀ i b, i < k + 1 → l[i]? = some b → p b = false) := Lh (fun i b hi hb => by
      by_cases e : i = k
      · subst e
        rw [HA.out] at hb
        injection hb with hb
        subst hb
        exact hp
      · exact HN.out i b (by omega) hb)
    have HP := Lh hp
    clear hp
    go_wp2_with fail
    exact ⟨⟨k + 1, by omega, by simp, HN2, HG2⟩, by simp [intOf]; omega⟩
  ·obtain rfl : k = l.length := by omega
   have hltd : decide ((l.length : Int) < (l.length : Int)) = false := by simp
   go_wp2_with fail
   go_ret
   exact ⟨ret_i (idx_none HN.out).symm, HG.out⟩
theorem idxRegions {α : Type} (R : World → α → List Value → Prop) (I : Nat → Prop) (hm : ∀ W W' a vs, Chg Non W W' → R W a vs → R W' a vs) (p : α → Bool) (A : Option Addr) (l : List α) (c : Nat) (w : World)
  (hr : RdL R I 5 w A l) (hf : Asks R aggV l p w 357 []) (hc : l.length ≤ c) (hcm : c ≤ maxLen) :
  Calls Tryz.prog 314 #[.slice A l.length c, .func (.func 357) #[] #[]] w fun e w' => e = .returned (.int .i64 (idxOf p l)) ∧ Chg Non w w' := by
 unfold maxLen at hcm
 have HR := Lh hr
 have HF := Lh hf
 clear hr hf
 go_enter Tryz.func314, Tryz.ntmps314
 go_wp2_with fail
 go_loopw [8] (fun iv wr => ∃ k : Nat, k ≤ l.length ∧ iv = .int .i64 k ∧ Hid (∀ i b, i < k → l[i]? = some b → p b = false) ∧ Hid (Chg Non w wr)) (fun iv _ => l.length - (intOf iv).toNat)
 case atStart => exact ⟨0, Nat.zero_le _, rfl, Lh (fun i b h => by omega), Lh (Chg.refl _ _)⟩
 case round =>
  obtain ⟨k, hk, rfl, HN, HG⟩ := hrel
  by_cases hlt : k < l.length
  ·obtain ⟨a, ha⟩ : ∃ a, l[k]? = some a := ⟨_, List.getElem?_eq_getElem hlt⟩
   obtain ⟨b, o, vs, rfl, _, hlen, hcell0, hR⟩ := HR.out k a ha
   have hcell := range_keepS hcell0 HG.out (fun e => e)
   have HK := Lh (HF.out wr a vs HG.out (List.mem_of_getElem? ha) (hm _ _ _ _ HG.out hR))
   have hltd : decide ((k : Int) < (l.length : Int)) = true := by simpa using hlt
   have HA := Lh ha
   clear ha hR hcell0
   have HC := Lh hcell
   have HL := Lh hlen
   clear hcell hlen
   go_wp2_with (refine sel (some 15) (.load 113 (.tmp 14)) ?_; refine wpList_load_mid rfl 113 (.tmp 14) rfl b (o + k * 5) rfl vs _ HC.out Tryz.underlying113 rfl (by rw [HL.out]; kernel_rfl) ?_)
   refine HK.out.mono ?_
   rintro e u ⟨rfl, hg⟩
   have HG2 := Lh (HG.out.then_non hg)
   clear hg
   cases hp : p a with
   | true =>
    go_wp2_with fail
    go_ret
    exact ⟨ret_i (idx_some HA.out hp HN.out).symm, HG2.out⟩
   | false =>
    have HN2 : Hid (∀ i b, i < k + 1 → l[i]? = some b → p b = false) := Lh (fun i b hi hb => by
      by_cases e : i = k
      · subst e
        rw [HA.out] at hb
        injection hb with hb
        subst hb
        exact hp
      · exact HN.out i b (by omega) hb)
    have HP := Lh hp
    clear hp
    go_wp2_with fail
    exact ⟨⟨k + 1, by omega, by simp, HN2, HG2⟩, by simp [intOf]; omega⟩
  ·obtain rfl : k = l.length := by omega
   have hltd : decide ((l.length : Int) < (l.length : Int)) = false := by simp
   go_wp2_with fail
   go_ret
   exact ⟨ret_i (idx_none HN.out).symm, HG.out⟩
theorem anyRegions {α : Type} (R : World → α → List Value → Prop) (I : Nat → Prop) (hm : ∀ W W' a vs, Chg Non W W' → R W a vs → R W' a vs) (p : α → Bool) (A : Option Addr) (l : List α) (c : Nat) (w : World)
  (hr : RdL R I 5 w A l) (hf : Asks R aggV l p w 357 []) (hc : l.length ≤ c) (hcm : c ≤ maxLen) :
  Calls Tryz.prog 235 #[.slice A l.length c, .func (.func 357) #[] #[]] w fun e w' => e = .returned (.bool (l.any p)) ∧ Chg Non w w' := by
 have HI := Lh (idxRegions R I hm p A l c w hr hf hc hcm)
 have HB := Lh (idx_ge p l)
 obtain ⟨j, hj⟩ : ∃ j, idxOf p l = j := ⟨_, rfl⟩
 rw [hj] at HI HB
 clear hr hf hj
 go_enter Tryz.func235, Tryz.ntmps235
 go_wp2_with fail
 refine HI.out.mono ?_
 rintro e u ⟨rfl, hg⟩
 go_wp2_with fail
 go_ret
 exact ⟨ret_b HB.out, hg⟩
theorem idxChannels {α : Type} (R : World → α → List Value → Prop) (I : Nat → Prop) (hm : ∀ W W' a vs, Chg Non W W' → R W a vs → R W' a vs) (p : α → Bool) (x : Value) (A : Option Addr) (l : List α) (c : Nat) (w : World)
  (hr : RdL R I 5 w A l) (hf : Asks R aggV l p w 362 [x]) (hc : l.length ≤ c) (hcm : c ≤ maxLen) :
  Calls Tryz.prog 375 #[.slice A l.length c, .func (.func 362) #[] #[x]] w fun e w' => e = .returned (.int .i64 (idxOf p l)) ∧ Chg Non w w' := by
 unfold maxLen at hcm
 have HR := Lh hr
 have HF := Lh hf
 clear hr hf
 go_enter Tryz.func375, Tryz.ntmps375
 go_wp2_with fail
 go_loopw [8] (fun iv wr => ∃ k : Nat, k ≤ l.length ∧ iv = .int .i64 k ∧ Hid (∀ i b, i < k → l[i]? = some b → p b = false) ∧ Hid (Chg Non w wr)) (fun iv _ => l.length - (intOf iv).toNat)
 case atStart => exact ⟨0, Nat.zero_le _, rfl, Lh (fun i b h => by omega), Lh (Chg.refl _ _)⟩
 case round =>
  obtain ⟨k, hk, rfl, HN, HG⟩ := hrel
  by_cases hlt : k < l.length
  ·obtain ⟨a, ha⟩ : ∃ a, l[k]? = some a := ⟨_, List.getElem?_eq_getElem hlt⟩
   obtain ⟨b, o, vs, rfl, _, hlen, hcell0, hR⟩ := HR.out k a ha
   have hcell := range_keepS hcell0 HG.out (fun e => e)
   have HK := Lh (HF.out wr a vs HG.out (List.mem_of_getElem? ha) (hm _ _ _ _ HG.out hR))
   have hltd : decide ((k : Int) < (l.length : Int)) = true := by simpa using hlt
   have HA := Lh ha
   clear ha hR hcell0
   have HC := Lh hcell
   have HL := Lh hlen
   clear hcell hlen
   go_wp2_with (refine sel (some 15) (.load 217 (.tmp 14)) ?_; refine wpList_load_mid rfl 217 (.tmp 14) rfl b (o + k * 5) rfl vs _ HC.out Tryz.underlying217 rfl (by rw [HL.out]; kernel_rfl) ?_)
   refine HK.out.mono ?_
   rintro e u ⟨rfl, hg⟩
   have HG2 := Lh (HG.out.then_non hg)
   clear hg
   cases hp : p a with
   | true =>
    go_wp2_with fail
    go_ret
    exact ⟨ret_i (idx_some HA.out hp HN.out).symm, HG2.out⟩
   | false =>
    have HN2 : Hid (∀ i b, i < k + 1 → l[i]? = some b → p b = false) := Lh (fun i b hi hb => by
      by_cases e : i = k
      · subst e
        rw [HA.out] at hb
        injection hb with hb
        subst hb
        exact hp
      · exact HN.out i b (by omega) hb)
    have HP := Lh hp
    clear hp
    go_wp2_with fail
    exact ⟨⟨k + 1, by omega, by simp, HN2, HG2⟩, by simp [intOf]; omega⟩
  ·obtain rfl : k = l.length := by omega
   have hltd : decide ((l.length : Int) < (l.length : Int)) = false := by simp
   go_wp2_with fail
   go_ret
   exact ⟨ret_i (idx_none HN.out).symm, HG.out⟩
theorem anyChannels {α : Type} (R : World → α → List Value → Prop) (I : Nat → Prop) (hm : ∀ W W' a vs, Chg Non W W' → R W a vs → R W' a vs) (p : α → Bool) (x : Value) (A : Option Addr) (l : List α) (c : Nat) (w : World)
  (hr : RdL R I 5 w A l) (hf : Asks R aggV l p w 362 [x]) (hc : l.length ≤ c) (hcm : c ≤ maxLen) :
  Calls Tryz.prog 361 #[.slice A l.length c, .func (.func 362) #[] #[x]] w fun e w' => e = .returned (.bool (l.any p)) ∧ Chg Non w w' := by
 have HI := Lh (idxChannels R I hm p x A l c w hr hf hc hcm)
 have HB := Lh (idx_ge p l)
 obtain ⟨j, hj⟩ : ∃ j, idxOf p l = j := ⟨_, rfl⟩
 rw [hj] at HI HB
 clear hr hf hj
 go_enter Tryz.func361, Tryz.ntmps361
 go_wp2_with fail
 refine HI.out.mono ?_
 rintro e u ⟨rfl, hg⟩
 go_wp2_with fail
 go_ret
 exact ⟨ret_b HB.out, hg⟩
theorem idxCan {α : Type} (R : World → α → List Value → Prop) (I : Nat → Prop) (hm : ∀ W W' a vs, Chg Non W W' → R W a vs → R W' a vs) (p : α → Bool) (A : Option Addr) (l : List α) (c : Nat) (w : World)
  (hr : RdL R I 5 w A l) (hf : Asks R aggV l p w 234 []) (hc : l.length ≤ c) (hcm : c ≤ maxLen) :
  Calls Tryz.prog 314 #[.slice A l.length c, .func (.func 234) #[] #[]] w fun e w' => e = .returned (.int .i64 (idxOf p l)) ∧ Chg Non w w' := by
 unfold maxLen at hcm
 have HR := Lh hr
 have HF := Lh hf
 clear hr hf
 go_enter Tryz.func314, Tryz.ntmps314
 go_wp2_with fail
 go_loopw [8] (fun iv wr => ∃ k : Nat, k ≤ l.length ∧ iv = .int .i64 k ∧ Hid (∀ i b, i < k → l[i]? = some b → p b = false) ∧ Hid (Chg Non w wr)) (fun iv _ => l.length - (intOf iv).toNat)
 case atStart => exact ⟨0, Nat.zero_le _, rfl, Lh (fun i b h => by omega), Lh (Chg.refl _ _)⟩
 case round =>
  obtain ⟨k, hk, rfl, HN, HG⟩ := hrel
  by_cases hlt : k < l.length
  ·obtain ⟨a, ha⟩ : ∃ a, l[k]? = some a := ⟨_, List.getElem?_eq_getElem hlt⟩
   obtain ⟨b, o, vs, rfl, _, hlen, hcell0, hR⟩ := HR.out k a ha
   have hcell := range_keepS hcell0 HG.out (fun e => e)
   have HK := Lh (HF.out wr a vs HG.out (List.mem_of_getElem? ha) (hm _ _ _ _ HG.out hR))
   have hltd : decide ((k : Int) < (l.length : Int)) = true := by simpa using hlt
   have HA := Lh ha
   clear ha hR hcell0
   have HC := Lh hcell
   have HL := Lh hlen
   clear hcell hlen
   go_wp2_with (refine sel (some 15) (.load 113 (.tmp 14)) ?_; refine wpList_load_mid rfl 113 (.tmp 14) rfl b (o + k * 5) rfl vs _ HC.out Tryz.underlying113 rfl (by rw [HL.out]; kernel_rfl) ?_)
   refine HK.out.mono ?_
   rintro e u ⟨rfl, hg⟩
   have HG2 := Lh (HG.out.then_non hg)
   clear hg
   cases hp : p a with
   | true =>
    go_wp2_with fail
    go_ret
    exact ⟨ret_i (idx_some HA.out hp HN.out).symm, HG2.out⟩
   | false =>
    have HN2 : Hid (∀ i b, i < k + 1 → l[i]? = some b → p b = false) := Lh (fun i b hi hb => by
      by_cases e : i = k
      · subst e
        rw [HA.out] at hb
        injection hb with hb
        subst hb
        exact hp
      · exact HN.out i b (by omega) hb)
    have HP := Lh hp
    clear hp
    go_wp2_with fail
    exact ⟨⟨k + 1, by omega, by simp, HN2, HG2⟩, by simp [intOf]; omega⟩
  ·obtain rfl : k = l.length := by omega
   have hltd : decide ((l.length : Int) < (l.length : Int)) = false := by simp
   go_wp2_with fail
   go_ret
   exact ⟨ret_i (idx_none HN.out).symm, HG.out⟩
theorem anyCan {α : Type} (R : World → α → List Value → Prop) (I : Nat → Prop) (hm : ∀ W W' a vs, Chg Non W W' → R W a vs → R W' a vs) (p : α → Bool) (A : Option Addr) (l : List α) (c : Nat) (w : World)
  (hr : RdL R I 5 w A l) (hf : Asks R aggV l p w 234 []) (hc : l.length ≤ c) (hcm : c ≤ maxLen) :
  Calls Tryz.prog 235 #[.slice A l.length c, .func (.func 234) #[] #[]] w fun e w' => e = .returned (.bool (l.any p)) ∧ Chg Non w w' := by
 have HI := Lh (idxCan R I hm p A l c w hr hf hc hcm)
 have HB := Lh (idx_ge p l)
 obtain ⟨j, hj⟩ : ∃ j, idxOf p l = j := ⟨_, rfl⟩
 rw [hj] at HI HB
 clear hr hf hj
 go_enter Tryz.func235, Tryz.ntmps235
 go_wp2_with fail
 refine HI.out.mono ?_
 rintro e u ⟨rfl, hg⟩
 go_wp2_with fail
 go_ret
 exact ⟨ret_b HB.out, hg⟩
end
section
open Go.RowKit
theorem win_at {I : Nat → Prop} {w w' : World} {A : Option Addr} {ws : List Win} (hr : RdL winV I 2 w A ws) (hg : Chg Non w w') {k : Nat} {a : Win} (hk : ws[k]? = some a) :
  ∃ b o, A = some ⟨b, o, none⟩ ∧ w'.cell? ⟨b, o + k * 2, none⟩ = some (.int .i64 a.len) ∧ w'.cell? ⟨b, o + k * 2 + 1, none⟩ = some (.int .i64 a.part) ∧ b < w'.heap.size ∧ I64 a.len ∧ I64 a.part := by
 obtain ⟨b, o, vs, rfl, _, hl, hc, rfl, h1, h2⟩ := hr k a hk
 have h0 := hg.cell_some (hc 0 (.int .i64 a.len) rfl) (fun e => e)
 exact ⟨b, o, rfl, h0, hg.cell_some (hc 1 (.int .i64 a.part) rfl) (fun e => e), lt_of_cell h0, h1, h2⟩
def winOk (a : Win) : Bool := decide (1 ≤ a.len) && decide (a.len ≤ 64) && decide (0 ≤ a.part) && decide (a.part ≤ 6)
theorem winOk_iff {a : Win} : winOk a = true ↔ 1 ≤ a.len ∧ a.len ≤ 64 ∧ 0 ≤ a.part ∧ a.part ≤ 6 := by
 simp only [winOk, Bool.and_eq_true, decide_eq_true_eq]
 omega
def wsum (ws : List Win) : Int := (ws.map (·.len)).sum
theorem wsum_snoc {ws : List Win} {k : Nat} {a : Win} (h : ws[k]? = some a) : wsum (ws.take (k + 1)) = wsum (ws.take k) + a.len := by
 obtain ⟨hk, rfl⟩ := List.getElem?_eq_some_iff.1 h
 rw [List.take_succ_eq_append_getElem hk]
 simp only [wsum, List.map_append, List.sum_append, List.map_cons, List.map_nil, List.sum_cons, List.sum_nil]
 omega
theorem wsum_bd {ws : List Win} (n : Nat) (h : ∀ i a, i < n → ws[i]? = some a → winOk a = true) : 0 ≤ wsum (ws.take n) ∧ wsum (ws.take n) ≤ 64 * n := by
 induction n with
 | zero => simp [wsum]
 | succ n ih =>
  have := ih (fun i a hi ha => h i a (by omega) ha)
  cases ha : ws[n]? with
  | none =>
   have hn : ws.length ≤ n := List.getElem?_eq_none_iff.1 ha
   rw [List.take_of_length_le (by omega)] at this ⊢
   omega
  | some a =>
   rw [wsum_snoc ha]
   have := winOk_iff.1 (h n a (by omega) ha)
   omega
def schMay (ws : List Win) : Bool := decide (1 ≤ ws.length) && decide (ws.length ≤ 12) && ws.all winOk && decide (wsum ws ≤ 64)
theorem schMay_bd {ws : List Win} (h : schMay ws = true) : 1 ≤ ws.length ∧ ws.length ≤ 12 ∧ (∀ a ∈ ws, winOk a = true) ∧ wsum ws ≤ 64 := by
 simp only [schMay, Bool.and_eq_true, decide_eq_true_eq, List.all_eq_true] at h
 exact ⟨h.1.1.1, h.1.1.2, h.1.2, h.2⟩
theorem schMay_ok (I : Nat → Prop) (A : Option Addr) (ws : List Win) (c : Nat) (w : World) (hr : RdL winV I 2 w A ws) (hc : ws.length ≤ c) (hm : c ≤ maxLen) :
  Calls Tryz.prog 353 #[.slice A ws.length c] w fun e w' => e = .returned (.bool (schMay ws)) ∧ Chg Non w w' := by
 unfold maxLen at hm
 have HR := Lh hr
 clear hr
 by_cases h0 : ws.length < 1
 ·have d0 : decide ((ws.length : Int) < 1) = true := by rw [decide_eq_true_eq]; omega
  have HE : Hid (schMay ws = false) := Lh (by simp [schMay]; omega)
  clear h0
  go_enter Tryz.func353, Tryz.ntmps353
  go_wp2_with fail
  go_ret
  exact ⟨ret_b HE.out.symm, Chg.refl _ _⟩
 have d0 : decide ((ws.length : Int) < 1) = false := by rw [decide_eq_false_iff_not]; omega
 by_cases h12 : 12 < ws.length
 ·have d1 : decide ((12 : Int) < (ws.length : Int)) = true := by rw [decide_eq_true_eq]; omega
  have HE : Hid (schMay ws = false) := Lh (by simp [schMay]; omega)
  clear h0 h12
  go_enter Tryz.func353, Tryz.ntmps353
  go_wp2_with fail
  go_ret
  exact ⟨ret_b HE.out.symm, Chg.refl _ _⟩
 have d1 : decide ((12 : Int) < (ws.length : Int)) = false := by rw [decide_eq_false_iff_not]; omega
 have hw12 : ws.length ≤ 12 := by omega
 have hw1 : 1 ≤ ws.length := by omega
 clear h0 h12
 go_enter Tryz.func353, Tryz.ntmps353
 go_wp2_with fail
 go_loopw [16, 3] (fun iv sv wr => ∃ k : Nat, k ≤ ws.length ∧ iv = .int .i64 k ∧ sv = .int .i64 (wsum (ws.take k)) ∧ Hid (∀ i a, i < k → ws[i]? = some a → winOk a = true) ∧ Hid (Chg Non w wr)) (fun iv _ _ => ws.length - (intOf iv).toNat)
 case atStart => exact ⟨0, Nat.zero_le _, rfl, rfl, Lh (fun i b h => by omega), Lh (Chg.refl _ _)⟩
 case round =>
  obtain ⟨k, hk, rfl, rfl, HN, HG⟩ := hrel
  have hbd := wsum_bd k HN.out
  by_cases hlt : k < ws.length
  ·obtain ⟨a, ha⟩ : ∃ a, ws[k]? = some a := ⟨_, List.getElem?_eq_getElem hlt⟩
   obtain ⟨b, o, rfl, k0, k1, hbl, hi1, hi2⟩ := win_at HR.out HG.out ha
   have hltd : decide ((k : Int) < (ws.length : Int)) = true := by simpa using hlt
   have hsn := wsum_snoc ha
   have HA := Lh (And.intro ha hsn)
   clear ha hsn
   obtain ⟨s, hs⟩ : ∃ s, wsum (ws.take k) = s := ⟨_, rfl⟩
   rw [hs] at HA hbd ⊢
   clear hs
   obtain ⟨x, y⟩ := a
   simp only at k0 k1 hi1 hi2
   unfold I64 at hi1 hi2
   by_cases hok : winOk ⟨x, y⟩ = true
   ·obtain ⟨o1, o2, o3, o4⟩ := winOk_iff.1 hok
    simp only at o1 o2 o3 o4
    have HN2 : Hid (∀ i b, i < k + 1 → ws[i]? = some b → winOk b = true) := Lh (fun i b hi hb => by
      by_cases e : i = k
      · subst e
        rw [HA.out.1] at hb
        injection hb with hb
        subst hb
        exact hok
      · exact HN.out i b (by omega) hb)
    have HG2 := Lh (HG.out.alloc (.cells #[.int .i64 x, .int .i64 y] 211))
    clear hok
    go_wp2_with fail
    exact ⟨⟨k + 1, by omega, by simp, by rw [HA.out.2], HN2, HG2⟩, by simp [intOf]; omega⟩
   ·have HE : Hid (schMay ws = false) := Lh (by
      rw [Bool.eq_false_iff]
      intro e
      exact hok ((schMay_bd e).2.2.1 _ (List.mem_of_getElem? HA.out.1)))
    have hno : x < 1 ∨ 64 < x ∨ y < 0 ∨ 6 < y := by
     rw [winOk_iff] at hok
     simp only at hok
     omega
    have HNo := Lh hno
    clear hok hno
    go_wp2_with fail
    all_goals first
     | (go_ret; exact ⟨ret_b HE.out.symm, HG.out.alloc _⟩)
     | (exfalso; have := HNo.out; omega)
  ·obtain rfl : k = ws.length := by omega
   have hltd : decide ((ws.length : Int) < (ws.length : Int)) = false := by simp
   have HE : Hid (decide (wsum ws ≤ 64) = schMay ws) := Lh (by
     have ha : ws.all winOk = true := List.all_eq_true.2 (fun a ha => by
       obtain ⟨i, hi⟩ := List.getElem?_of_mem ha
       exact HN.out i a (List.getElem?_eq_some_iff.1 hi).1 hi)
     simp [schMay, ha, hw12, hw1])
   go_wp2_with fail
   go_ret
   exact ⟨ret_b HE.out, HG.out⟩
end
section
open Go.RowKit
theorem res_ct {P : Program} {fn : Func} {p q : Tmp} {ty : TypeId} (h : fn.results = #[.cell p ty, .tmp q]) (tmps : Array Value) (w : World) (g : Nat) (t : TypeId) (cs : Array Value) (fr : Nat × Nat) (d : TypeDesc) (v : Value)
  (hp : tmps.getD p undef = .pointer (some ⟨g, 0, none⟩)) (hv : tmps.getD q undef = v) (hg : w.heap[g]? = some (.cells cs t fr))
  (hu : P.underlying ty = some d) (hd : (match d with | .struct _ | .array _ _ => true | _ => false) = true) (hi : (P.info? ty).map (·.size) = some cs.size) :
  (results fn tmps).run P w = .ok (.tuple #[.agg cs, v]) w := by
 have hp' : tmps[p]?.getD undef = .pointer (some ⟨g, 0, none⟩) := by simpa using hp
 have hv' : tmps[q]?.getD undef = v := by simpa using hv
 simp [results, h, hp', hv', asAddr, run_loadVar_row w g t ty cs fr d hg hu hd hi]
theorem res_c {P : Program} {fn : Func} {p : Tmp} {ty : TypeId} (h : fn.results = #[.cell p ty]) (tmps : Array Value) (w : World) (g : Nat) (t : TypeId) (cs : Array Value) (fr : Nat × Nat) (d : TypeDesc)
  (hp : tmps.getD p undef = .pointer (some ⟨g, 0, none⟩)) (hg : w.heap[g]? = some (.cells cs t fr))
  (hu : P.underlying ty = some d) (hd : (match d with | .struct _ | .array _ _ => true | _ => false) = true) (hi : (P.info? ty).map (·.size) = some cs.size) :
  (results fn tmps).run P w = .ok (.agg cs) w := by
 have hp' : tmps[p]?.getD undef = .pointer (some ⟨g, 0, none⟩) := by simpa using hp
 simp [results, h, hp', asAddr, run_loadVar_row w g t ty cs fr d hg hu hd hi]
theorem blk_set {w : World} {g : Nat} {cs : Array Value} {t : TypeId} {fr : Nat × Nat} (i : Nat) (u : Value) (h : w.heap[g]? = some (.cells cs t fr)) : (w.setCell ⟨g, i, none⟩ u).heap[g]? = some (.cells (cs.setIfInBounds i u) t fr) := by
 have hlt := (Array.getElem?_eq_some_iff.1 h).1
 have h' : w.heap[g] = .cells cs t fr := by simpa [Array.getElem?_eq_getElem hlt] using h
 show (w.heap.modify g _)[g]? = _
 rw [Array.getElem?_eq_getElem (by simpa using hlt), Array.getElem_modify_self, h']
 rfl
theorem chg_set (w : World) (b i : Nat) (v : Value) : Chg (fun k => k = b) w (w.setCell ⟨b, i, none⟩ v) := (Chg.refl (fun k => k = b) w).setCell (p := ⟨b, i, none⟩) (.inl rfl) v
theorem blk_keep {S : Nat → Prop} {w w' : World} {g : Nat} {o : Obj} (h : w.heap[g]? = some o) (hg : Chg S w w') (hn : ¬ S g) : w'.heap[g]? = some o := (hg.block _ (Array.getElem?_eq_some_iff.1 h).1 hn).trans h
theorem blk_cell {w : World} {g : Nat} {cs : Array Value} {t : TypeId} {fr : Nat × Nat} (h : w.heap[g]? = some (.cells cs t fr)) (i : Nat) {v : Value} (hv : cs[i]? = some v) : w.cell? ⟨g, i, none⟩ = some v := by rw [cell_of_row _ _ _ _ _ _ h]; exact hv
theorem blk_free {w : World} {g : Nat} {cs : Array Value} {t : TypeId} (h : w.heap[g]? = some (.cells cs t (0, 0))) (i : Nat) : w.frozen? ⟨g, i, none⟩ = false := frozen_of_row _ _ _ _ _ h
theorem blk_range {w : World} {g : Nat} {cs : Array Value} {t : TypeId} {fr : Nat × Nat} (h : w.heap[g]? = some (.cells cs t fr)) : w.rangeAt g 0 cs.toList := fun j v hv => by
 rw [cell_of_row _ _ _ _ _ _ h, Nat.zero_add]
 simpa using hv
theorem blk_lt {w : World} {g : Nat} {o : Obj} (h : w.heap[g]? = some o) : g < w.heap.size := (Array.getElem?_eq_some_iff.1 h).1
theorem blk_new (w : World) (o : Obj) : (w.alloc o).heap[w.heap.size]? = some o := heap_alloc_new w o
theorem wpList_valA {P : Program} {ops : Array Oper} {rest : List Oper} {o : Oper} {a : Act} {w : World} {Q : Exit → Act → World → Prop} (hgd : o.guard = none) (d : Option Tmp) (v : Value) (hdst : o.dst = d) (he : (execOp a.eval o).run P w = .ok (.value v) w) (h : wpList P ops Q rest (a.put d v) w) : wpList P ops Q (o :: rest) a w := by
 subst hdst
 refine wpList_plain hgd fun K hK => ?_
 unfold Oper.wp
 rw [he]
 exact hK _ _ h
theorem blk_call {w w' : World} {o : Obj} (hg : Chg Non (w.alloc o) w') : w'.heap[w.heap.size]? = some o := blk_keep (blk_new w o) hg (fun e => e)
theorem blk_call2 {w w' : World} {o1 o2 : Obj} (hg : Chg Non ((w.alloc o1).alloc o2) w') : w'.heap[w.heap.size]? = some o1 ∧ w'.heap[w.heap.size + 1]? = some o2 ∧ w.heap.size + 1 < w'.heap.size ∧ Chg Non w w' := by
 have h2 : w'.heap[w.heap.size + 1]? = some o2 := by have := blk_call hg; simpa using this
 exact ⟨blk_keep (blk_keep (blk_new w o1) ((Chg.refl Non _).alloc o2) (fun e => e)) hg (fun e => e), h2, blk_lt h2, (((Chg.refl Non w).alloc _).alloc _).then_non hg⟩
theorem blk_call3 {w w' : World} {o1 o2 o3 : Obj} (hg : Chg Non (((w.alloc o1).alloc o2).alloc o3) w') : w'.heap[w.heap.size]? = some o1 ∧ w'.heap[w.heap.size + 1]? = some o2 ∧ w'.heap[w.heap.size + 1 + 1]? = some o3 ∧ w.heap.size + 1 + 1 < w'.heap.size ∧ Chg Non w w' := by
 have h3 : w'.heap[w.heap.size + 1 + 1]? = some o3 := by have := blk_call hg; simpa using this
 obtain ⟨h1, h2, _, hw⟩ := blk_call2 (w := w) (o1 := o1) (o2 := o2) (w' := w') (((Chg.refl Non _).alloc o3).then_non hg)
 exact ⟨h1, h2, h3, blk_lt h3, hw⟩
end
section
open Go.RowKit
structure HoleV (p : Prop) : Prop where
 out : p
theorem Vm_stop {p : Prop} (h : HoleV p) : p := h.out
theorem run_appB (w : World) (ty : TypeId) (B : Nat) (v : Value) (l : List UInt8) (hown : OwnR B w v l) (A : Option Addr) (c : Nat) (y : List UInt8) (hr : Rd w A y) (hl : l.length ≤ 1000000) (hy : y.length ≤ 140737488355328) (hB : B ≤ w.heap.size) (hly : l.length + y.length ≤ 140737488355328) :
  ∃ v' w', (Builtin.append_ #[32, 32] ty #[v, .slice A y.length c]).run Tryz.prog w = .ok v' w' ∧ OwnR B w' v' (l ++ y) ∧ w.grownBy w' v.ownBlock ∧ (v'.ownBlock = v.ownBlock ∨ v'.ownBlock = some w.heap.size) := by
 obtain ⟨i0, hi0, hz0, hs0, hb0⟩ := info_parts info_u8
 cases A with
 | none =>
  have hy0 : y = [] := by
   cases y with
   | nil => rfl
   | cons x r => obtain ⟨b, o, e, _⟩ := hr 0 x rfl; cases e
  subst hy0
  refine ⟨v, w, ?_, by simpa using hown, World.grownBy.refl w _, .inl rfl⟩
  rcases hown.2 with ⟨rfl, _⟩ | ⟨g, cap, cur, rfl, _, _, hnc, _⟩
  ·simp [Builtin.append_, run_underlying Tryz.underlying32, sizeOf, typeInfo, hi0, Builtin.lenOf, Builtin.firstCells]
  ·simp [Builtin.append_, run_underlying Tryz.underlying32, sizeOf, typeInfo, hi0, Builtin.lenOf, Builtin.firstCells, hnc, storeCells]
 | some ad =>
  obtain ⟨v', w', h1, h2, h3, _, h5⟩ := run_append_own_at (P := Tryz.prog) w B 32 ty 5 i0 _ 1 1 Tryz.underlying32 hi0 hz0 hs0 hb0 rfl (by omega) v l.length (l.map bv) hown ad y.length c (y.map bv) (by simp) (by
    intro j u hu
    rw [List.getElem?_map] at hu
    obtain ⟨z, hz, rfl⟩ := Option.map_eq_some_iff.1 hu
    obtain ⟨b, o, e, hc⟩ := hr j z hz
    injection e with e
    subst e
    rw [plain_add]
    exact hc) (by
    intro u hu
    obtain ⟨z, _, rfl⟩ := List.mem_map.1 hu
    rfl) (by unfold maxLen; omega) (by omega) hB
  exact ⟨v', w', h1, by unfold OwnR; rw [List.length_append, List.map_append]; exact h2, h3, h5⟩
theorem wpList_appB {ops : Array Oper} {rest : List Oper} {o : Oper} {a : Act} {w : World} {Q : Exit → Act → World → Prop} (hgd : o.guard = none) (s x : Operand)
  (ho : o.op = .call { callee := .builtin .append, args := #[s, x], argTypes := #[32, 32] })
  (B : Nat) (v : Value) (l : List UInt8) (hs : a.eval s = v) (hown : OwnR B w v l) (A : Option Addr) (c : Nat) (y : List UInt8) (hx : a.eval x = .slice A y.length c) (hr : Rd w A y)
  (hl : l.length ≤ 1000000) (hy : y.length ≤ 140737488355328) (hB : B ≤ w.heap.size) (hly : l.length + y.length ≤ 140737488355328)
  (h : ∀ v2 w2, OwnR B w2 v2 (l ++ y) → Chg (fun k => v.ownBlock = some k) w w2 → (v2.ownBlock = v.ownBlock ∨ v2.ownBlock = some w.heap.size) → wpList Tryz.prog ops Q rest (a.put o.dst v2) w2) : wpList Tryz.prog ops Q (o :: rest) a w := by
 obtain ⟨v', w', h1, h2, h3, h4⟩ := run_appB w o.type B v l hown A c y hr hl hy hB hly
 refine wpList_plain hgd fun K hK => ?_
 unfold Oper.wp execOp
 simp only [ho, resolve, invoke, builtin, Sem.run_bind, Sem.run_pure, Result.andThen_ok, List.map_toArray, List.map_cons, List.map_nil, hs, hx, h1]
 exact hK _ _ (h v' w' h2 ((Chg.refl _ w).grown h3 fun g' hg' => .inl hg') h4)
theorem own_emptyR (w : World) : OwnR w.heap.size (w.alloc (.cells #[] 5)) (.slice (some ⟨w.heap.size, 0, none⟩) 0 0) [] :=
 ⟨rfl, .inr ⟨w.heap.size, 0, #[], rfl, Nat.le_refl _, heap_alloc_new _ _, Nat.le_refl _, by simp, rfl, rfl⟩⟩
theorem OwnR.own {B : Nat} {w : World} {v : Value} {l : List UInt8} (h : OwnR B w v l) : ∃ A c, v = .slice A l.length c ∧ l.length ≤ c ∧ c ≤ maxLen ∧ Own B w A l := by
 rcases h.2 with ⟨rfl, h0⟩ | ⟨g, cap, cur, rfl, hB, hg, h1, h2, h3, h4⟩
 ·have : l = [] := List.eq_nil_of_length_eq_zero h0
  subst this
  exact ⟨none, 0, rfl, Nat.le_refl _, by simp, Own.nil _ _ _⟩
 ·refine ⟨_, cap, rfl, h1, h2, fun i x hx => ⟨g, 0, rfl, hB, ?_, ?_⟩⟩
  ·have := h.cells (g := g) rfl i (bv x) (by rw [List.getElem?_map, hx]; rfl)
   rw [plain_add] at this
   exact this
  ·simp only [World.frozen?]
   rw [hg]
   simp
theorem eql_nil (B : Option Addr) (n c : Nat) (W : World) : (binOp .eql 32 (.slice B n c) (.slice none 0 0)).run Tryz.prog W = .ok (.bool B.isNone) W := by
 simp only [binOp]
 simp [run_equal_slice_nil W _ _ B n c Tryz.underlying32]
theorem SlClone_ok (A : Option Addr) (l : List UInt8) (c : Nat) (w : World) (h : Rd w A l) (hl : l.length ≤ 140737488355328) :
  Calls Tryz.prog 164 #[.slice A l.length c] w (RetB w l) := by
 have HR := Lh h
 have hnil : ∀ (B : Option Addr) (n c : Nat) (W : World), (binOp .eql 32 (.slice B n c) (.slice none 0 0)).run Tryz.prog W = .ok (.bool B.isNone) W := fun B n c W => eql_nil B n c W
 cases A with
 | none =>
  have hl0 : l = [] := by
   cases l with
   | nil => rfl
   | cons x r => obtain ⟨b, o, e, _⟩ := h 0 x rfl; cases e
  subst hl0
  clear h
  go_enter Tryz.func164, Tryz.ntmps164
  go_wp2_with fail
  go_ret
  exact ⟨none, 0, rfl, Nat.le_refl _, by simp, Own.nil _ _ _, Chg.refl _ _⟩
 | some ad =>
  clear h
  go_enter Tryz.func164, Tryz.ntmps164
  go_wp2_with (refine sel (some 7) (.call _) ?_; refine Vm_stop ?_)
  refine HoleV.mk ?_
  refine wpList_appB rfl (.tmp 5) (.tmp 6) rfl w.heap.size (.slice (some ⟨w.heap.size, 0, none⟩) 0 0) [] rfl (own_emptyR w) (some ad) c l rfl (HR.out.non ((Chg.refl Non _).alloc _)) (by simp) hl (by simp) (by simpa using hl) ?_
  intro v2 w2 ho hg hat
  obtain ⟨A2, c2, rfl, h1, h2, h3⟩ := OwnR.own ho
  have H3 := Lh h3
  have HG := Lh (((Chg.refl Non w).alloc _).then_new hg (fun x hx => (own_emptyR w).ge hx))
  clear h3 hg hat ho
  go_wp2_with fail
  go_ret
  exact ⟨A2, c2, rfl, h1, h2, H3.out, HG.out⟩
end
section
open Go.RowKit
theorem mk_func : ∀ (fn : Fn) (first cap : Array Value) (w : World), (Instr.makeFunc fn first cap).run Tryz.prog w = .ok (.func fn first cap) w := fun _ _ _ _ => rfl
theorem pn_at {I : Nat → Prop} {w w' : World} {A : Option Addr} {ps : List Pn} (hr : RdL (pnV I) I 5 w A ps) (hg : Chg Non w w') {k : Nat} {a : Pn} (hk : ps[k]? = some a) :
  ∃ b o m, A = some ⟨b, o, none⟩ ∧ w'.cell? ⟨b, o + k * 5, none⟩ = some (.int .i64 a.id) ∧ w'.cell? ⟨b, o + k * 5 + 1, none⟩ = some (.int .i64 a.base) ∧ w'.cell? ⟨b, o + k * 5 + 2, none⟩ = some (.int .i64 a.size) ∧ w'.cell? ⟨b, o + k * 5 + 3, none⟩ = some (.bool a.keep) ∧ w'.cell? ⟨b, o + k * 5 + 4, none⟩ = some m ∧
   BytesV I w' a.img m ∧ I64 a.id ∧ I64 a.base ∧ I64 a.size ∧ a.img.length ≤ 140737488351232 ∧ b < w'.heap.size := by
 obtain ⟨b, o, vs, rfl, _, hl, hc, m, rfl, hb, ⟨h1, h2, h3⟩, h4⟩ := hr k a hk
 have h0 := hg.cell_some (hc 0 (.int .i64 a.id) rfl) (fun e => e)
 exact ⟨b, o, m, rfl, h0, hg.cell_some (hc 1 _ rfl) (fun e => e), hg.cell_some (hc 2 _ rfl) (fun e => e), hg.cell_some (hc 3 _ rfl) (fun e => e), hg.cell_some (hc 4 _ rfl) (fun e => e), hb.non hg, h1, h2, h3, h4, lt_of_cell h0⟩
theorem ch_at {I : Nat → Prop} {w w' : World} {A : Option Addr} {cs : List Ch} (hr : RdL chV I 5 w A cs) (hg : Chg Non w w') {k : Nat} {a : Ch} (hk : cs[k]? = some a) :
  ∃ b o, A = some ⟨b, o, none⟩ ∧ w'.cell? ⟨b, o + k * 5, none⟩ = some (.int .i64 a.id) ∧ w'.cell? ⟨b, o + k * 5 + 1, none⟩ = some (.int .i64 a.src) ∧ w'.cell? ⟨b, o + k * 5 + 2, none⟩ = some (.int .i64 a.dst) ∧ w'.cell? ⟨b, o + k * 5 + 3, none⟩ = some (.int .i64 a.cap) ∧ w'.cell? ⟨b, o + k * 5 + 4, none⟩ = some (.int .i64 a.size) ∧ a.Bd ∧ b < w'.heap.size := by
 obtain ⟨b, o, vs, rfl, _, hl, hc, rfl, h1⟩ := hr k a hk
 have h0 := hg.cell_some (hc 0 (.int .i64 a.id) rfl) (fun e => e)
 exact ⟨b, o, rfl, h0, hg.cell_some (hc 1 _ rfl) (fun e => e), hg.cell_some (hc 2 _ rfl) (fun e => e), hg.cell_some (hc 3 _ rfl) (fun e => e), hg.cell_some (hc 4 _ rfl) (fun e => e), h1, lt_of_cell h0⟩
theorem pnV_non {I : Nat → Prop} : ∀ W W' a vs, Chg Non W W' → pnV I W a vs → pnV I W' a vs := fun _ _ _ _ hg h => h.keep hg (fun _ _ e => e)
theorem part1_ok (id : Int) (g : Nat) (m : Value) (a : Pn) (w : World) (h : w.cell? ⟨g, 0, none⟩ = some (.int .i64 id)) :
  Calls Tryz.prog 365 #[.agg #[.int .i64 a.id, .int .i64 a.base, .int .i64 a.size, .bool a.keep, m], .pointer (some ⟨g, 0, none⟩)] w fun e w' => e = .returned (.bool (a.id == id)) ∧ Chg Non w w' := by
 have hlt : g < w.heap.size := lt_of_cell h
 obtain ⟨x, b, s, k, i⟩ := a
 simp only
 go_enter Tryz.func365, Tryz.ntmps365
 go_wp2_with fail
 go_ret
 exact ⟨rfl, (Chg.refl _ _).alloc _⟩
def PartP (ps : List Pn) (id : Int) (w : World) (e : Ending) (w' : World) : Prop :=
 (∃ (k : Nat) (a : Pn) (m : Value), ps[k]? = some a ∧ idxOf (fun p : Pn => p.id == id) ps = k ∧ e = .returned (.tuple #[.agg #[.int .i64 a.id, .int .i64 a.base, .int .i64 a.size, .bool a.keep, m], .bool true]) ∧ BytesV (From w.heap.size) w' a.img m ∧ Chg Non w w') ∨
 (idxOf (fun p : Pn => p.id == id) ps = -1 ∧ e = .returned (.tuple #[.agg #[.int .i64 0, .int .i64 0, .int .i64 0, .bool false, .slice none 0 0], .bool false]) ∧ Chg Non w w')
theorem idx_get {α : Type} {p : α → Bool} {l : List α} {k : Nat} (h : idxOf p l = (k : Int)) : ∃ a, l[k]? = some a ∧ p a = true := by
 unfold idxOf at h
 cases hf : l.findIdx? p with
 | none => rw [hf] at h; simp at h
 | some i =>
  rw [hf] at h
  simp only at h
  obtain rfl : i = k := by omega
  obtain ⟨hi, hp, _⟩ := List.findIdx?_eq_some_iff_getElem.1 hf
  exact ⟨l[i], List.getElem?_eq_getElem hi, hp⟩
theorem cPart_ok (I : Nat → Prop) (va vd : Value) (A : Option Addr) (ps : List Pn) (c : Nat) (id : Int) (w : World) (hr : RdL (pnV I) I 5 w A ps) (hc : ps.length ≤ c) (hm : c ≤ maxLen) :
  Calls Tryz.prog 335 #[.agg #[va, .slice A ps.length c, vd], .int .i64 id] w (PartP ps id w) := by
 have HI := Lh (fun W (hg : Chg Non w W) x (hq : Asks (pnV I) aggV ps (fun p : Pn => p.id == id) W 365 [x]) => idxPart (pnV I) I pnV_non (fun p : Pn => p.id == id) x A ps c W (hr.non hg (fun a vs h => pnV_non _ _ _ _ hg h)) hq hc hm)
 have HQ := Lh (fun W (hcell : W.cell? ⟨w.heap.size + 1, 0, none⟩ = some (.int .i64 id)) => show Asks (pnV I) aggV ps (fun p : Pn => p.id == id) W 365 [.pointer (some ⟨w.heap.size + 1, 0, none⟩)] from by
   rintro W' a vs hg ha ⟨m, rfl, _⟩
   exact part1_ok id (w.heap.size + 1) m a W' (hg.cell_some hcell (fun e => e)))
 have HR := Lh hr
 have hmf := mk_func
 unfold maxLen at hm
 clear hr
 obtain ⟨j, hj⟩ : ∃ j, idxOf (fun p : Pn => p.id == id) ps = j := ⟨_, rfl⟩
 have hjb := idx_bd (fun p : Pn => p.id == id) ps
 have HJ := Lh hj
 simp only [hj] at HI hjb
 clear hj
 go_enter Tryz.func335, Tryz.ntmps335
 go_wp2_with fail
 refine (HI.out _ (((((Chg.refl Non w).alloc _).alloc _).alloc _)) _ (HQ.out _ ?hcell)).mono ?_
 case hcell =>
  rw [World.cell?_alloc_old _ _ _ (by simp)]
  simp
 rintro e u ⟨rfl, hg⟩
 obtain ⟨b0, b1, b2, hlt, hgw⟩ := blk_call3 hg
 have HB2 := Lh b2
 have HGw := Lh hgw
 have k1 := blk_cell b0 1 (v := .slice A ps.length c) rfl
 clear b0 b1 b2 hg hgw
 by_cases hneg : j < 0
 ·have hj1 : j = -1 := by omega
  have hd : decide (j < 0) = true := by simpa using hneg
  have HJ1 := Lh hj1
  clear hneg hj1
  have r0 := blk_cell HB2.out 0 (v := .int .i64 0) rfl
  have r1 := blk_cell HB2.out 1 (v := .int .i64 0) rfl
  have r2 := blk_cell HB2.out 2 (v := .int .i64 0) rfl
  have r3 := blk_cell HB2.out 3 (v := .bool false) rfl
  have r4 := blk_cell HB2.out 4 (v := .slice none 0 0) rfl
  have f0 := blk_free HB2.out 0
  have f1 := blk_free HB2.out 1
  have f2 := blk_free HB2.out 2
  have f3 := blk_free HB2.out 3
  have f4 := blk_free HB2.out 4
  go_wp2_with fail
  have hbW := blk_set 4 (.slice none 0 0) (blk_set 3 (.bool false) (blk_set 2 (.int .i64 0) (blk_set 1 (.int .i64 0) (blk_set 0 (.int .i64 0) HB2.out))))
  have hgW := HGw.out.then_new ((((chg_set u (w.heap.size + 1 + 1) 0 (.int .i64 0)).trans_same (chg_set _ _ 1 (.int .i64 0))).trans_same (chg_set _ _ 2 (.int .i64 0))).trans_same ((chg_set _ _ 3 (.bool false)).trans_same (chg_set _ _ 4 (.slice none 0 0)))) (fun x e => by omega)
  exact bodyPost_ret (res_ct Tryz.results335 _ _ (w.heap.size + 1 + 1) 113 _ (0, 0) _ (.bool false) (by kernel_rfl) (by kernel_rfl) hbW Tryz.underlying113 rfl (by kernel_rfl)) (by kernel_rfl) (Or.inr ⟨by rw [HJ.out, HJ1.out], rfl, hgW⟩)
 ·obtain ⟨k, rfl⟩ : ∃ k : Nat, j = k := ⟨j.toNat, by omega⟩
  have hd : decide ((k : Int) < 0) = false := by rw [decide_eq_false_iff_not]; exact hneg
  obtain ⟨a, ha, hpa⟩ := idx_get HJ.out
  have hkl := (List.getElem?_eq_some_iff.1 ha).1
  obtain ⟨b, o, m, rfl, q0, q1, q2, q3, q4, hbv, i1, i2, i3, i4, hbl⟩ := pn_at HR.out HGw.out ha
  obtain ⟨A2, c2, rfl, g1, g2, g3, g4⟩ := hbv
  have hk0 : (0 : Int) ≤ (k : Int) := by omega
  have hki : (k : Int) < (ps.length : Int) := by omega
  have HA := Lh ha
  have HCl := Lh (fun W (hg : Chg Non u W) => SlClone_ok A2 a.img c2 W (g3.non hg) (by omega))
  clear ha hpa g3 g4 hneg
  obtain ⟨x, bs, s, kp, im⟩ := a
  simp only at q0 q1 q2 q3 q4 i1 i2 i3 i4 g1 HCl
  go_wp2_with fail
  refine (HCl.out _ ((Chg.refl Non u).alloc _)).mono ?_
  rintro e v ⟨A3, c3, rfl, n1, n2, n3, n4⟩
  have hbl7 := blk_call n4
  have hg3 := chg_set v u.heap.size 4 (.slice A3 im.length c3)
  have hb7 := blk_set 4 (.slice A3 im.length c3) hbl7
  simp only [List.setIfInBounds_toArray, List.set_cons_zero, List.set_cons_succ] at hb7
  have hv1 : Chg Non u v := ((Chg.refl Non u).alloc _).then_non n4
  have hr2 := blk_keep (blk_keep HB2.out hv1 (fun e => e)) hg3 (by omega)
  have hby : BytesV (From u.heap.size) (v.setCell ⟨u.heap.size, 4, none⟩ (.slice A3 im.length c3)) im (.slice A3 im.length c3) :=
   ⟨A3, c3, rfl, n1, n2, n3.rd.keep hg3 (fun b o e hl hs => by subst e; have := n3.ge hl; simp at this; omega), fun b o e hl => by subst e; have := n3.ge hl; simp at this; show u.heap.size ≤ b; omega⟩
  have p4 := blk_cell hbl7 4 (v := .slice A2 im.length c2) rfl
  have pf4 := blk_free hbl7 4
  have HB7 := Lh hb7
  have HR2 := Lh hr2
  have HBy := Lh hby
  have HG3 := Lh ((HGw.out.then_non hv1).then_new hg3 (fun x e => by omega))
  clear hbl7 hg3 hb7 hr2 hby n3 n4 hv1
  go_wp2_with (first
    | (refine sel (some 24) (.load 113 (.tmp 7)) ?_
       refine wpList_load_mid rfl 113 (.tmp 7) rfl u.heap.size 0 rfl [.int .i64 x, .int .i64 bs, .int .i64 s, .bool kp, .slice A3 im.length c3] _ (blk_range HB7.out) Tryz.underlying113 rfl (by kernel_rfl) ?_)
    | (refine sel none (.store 113 (.tmp 4) (.tmp 24)) ?_
       refine wpList_store_rowA rfl 113 (.tmp 4) (.tmp 24) rfl (w.heap.size + 1 + 1) #[.int .i64 x, .int .i64 bs, .int .i64 s, .bool kp, .slice A3 im.length c3] rfl rfl 113 _ HR2.out (by kernel_rfl) rfl (by simp [Value.oneCell']) ?_
       intro W hgW hbW
       have HBW := Lh hbW
       have HGW := Lh (HG3.out.then_new hgW (fun x e => by omega))
       have HByW := Lh (HBy.out.keep hgW (fun b hb e => by have hb : u.heap.size ≤ b := hb; omega))
       clear hgW hbW))
  exact bodyPost_ret (res_ct Tryz.results335 _ _ (w.heap.size + 1 + 1) 113 _ (0, 0) _ (.bool true) (by kernel_rfl) (by kernel_rfl) HBW.out Tryz.underlying113 rfl (by kernel_rfl)) (by kernel_rfl) (Or.inl ⟨k, ⟨x, bs, s, kp, im⟩, .slice A3 im.length c3, HA.out, HJ.out, rfl, HByW.out.mono (fun b hb => by have hb : u.heap.size ≤ b := hb; show w.heap.size ≤ b; omega), HGW.out⟩)
end
section
open Go.RowKit
def hasB (ps : List Pn) (id : Int) : Bool := ps.any fun p => p.id == id
theorem hasB_idx {ps : List Pn} {id j : Int} (h : idxOf (fun p : Pn => p.id == id) ps = j) : hasB ps id = decide (0 ≤ j) := by
 rw [← h, idx_ge]; rfl
theorem vhas_ok (I : Nat → Prop) (va vd : Value) (A : Option Addr) (ps : List Pn) (c : Nat) (id : Int) (w : World) (hr : RdL (pnV I) I 5 w A ps) (hc : ps.length ≤ c) (hm : c ≤ maxLen) (h1 : va.oneCell' = true) (h2 : vd.oneCell' = true) :
  Calls Tryz.prog 356 #[.agg #[va, .slice A ps.length c, vd], .int .i64 id] w fun e w' => e = .returned (.bool (hasB ps id)) ∧ Chg Non w w' := by
 have HP := Lh (fun W (hg : Chg Non w W) => cPart_ok I va vd A ps c id W (hr.non hg (fun a vs h => pnV_non _ _ _ _ hg h)) hc hm)
 clear hr
 go_enter Tryz.func356, Tryz.ntmps356
 go_wp2_with fail
 refine (HP.out _ ((Chg.refl Non w).alloc _)).mono ?_
 rintro e u (⟨k, a, m, ha, hj, rfl, ⟨A2, c2, rfl, _⟩, hg⟩ | ⟨hj, rfl, hg⟩)
 ·have HE := Lh (hasB_idx hj)
  have HG := Lh (((Chg.refl Non w).alloc _).then_non hg)
  clear hj hg ha
  go_wp2_with fail
  go_ret
  exact ⟨ret_b (by rw [HE.out]; simp), HG.out.alloc _⟩
 ·have HE := Lh (hasB_idx hj)
  have HG := Lh (((Chg.refl Non w).alloc _).then_non hg)
  clear hj hg
  go_wp2_with fail
  go_ret
  exact ⟨ret_b (by rw [HE.out]; simp), HG.out.alloc _⟩
structure CfgB (I : Nat → Prop) (w : World) (c : Cfg) (g : Nat) (A1 A2 A3 : Option Addr) (c1 c2 c3 : Nat) : Prop where
 box : w.heap[g]? = some (.cells #[.slice A1 c.ws.length c1, .slice A2 c.ps.length c2, .slice A3 c.cs.length c3] 28 (0, 0))
 ws : RdL winV I 2 w A1 c.ws
 ps : RdL (pnV I) I 5 w A2 c.ps
 cs : RdL chV I 5 w A3 c.cs
 l1 : c.ws.length ≤ c1 ∧ c1 ≤ maxLen
 l2 : c.ps.length ≤ c2 ∧ c2 ≤ maxLen
 l3 : c.cs.length ≤ c3 ∧ c3 ≤ maxLen
theorem winV_non : ∀ W W' a vs, Chg Non W W' → winV W a vs → winV W' a vs := fun _ _ _ _ _ h => h
theorem chV_non : ∀ W W' a vs, Chg Non W W' → chV W a vs → chV W' a vs := fun _ _ _ _ _ h => h
theorem CfgB.non {I : Nat → Prop} {w w' : World} {c : Cfg} {g : Nat} {A1 A2 A3 : Option Addr} {c1 c2 c3 : Nat} (h : CfgB I w c g A1 A2 A3 c1 c2 c3) (hg : Chg Non w w') : CfgB I w' c g A1 A2 A3 c1 c2 c3 :=
 ⟨blk_keep h.box hg (fun e => e), h.ws.non hg (fun _ _ h => h), h.ps.non hg (fun a vs h => pnV_non _ _ _ _ hg h), h.cs.non hg (fun _ _ h => h), h.l1, h.l2, h.l3⟩
def winBad (c : Cfg) (a : Win) : Bool := decide (a.part ≠ 0) && !hasB c.ps a.part
theorem win1_ok (I : Nat → Prop) (w : World) (c : Cfg) (g : Nat) (A1 A2 A3 : Option Addr) (c1 c2 c3 : Nat) (h : CfgB I w c g A1 A2 A3 c1 c2 c3) (a : Win) :
  Calls Tryz.prog 355 #[.agg #[.int .i64 a.len, .int .i64 a.part], .pointer (some ⟨g, 0, none⟩)] w fun e w' => e = .returned (.bool (winBad c a)) ∧ Chg Non w w' := by
 obtain ⟨l, p⟩ := a
 have hlt := blk_lt h.box
 have k0 := blk_cell h.box 0 (v := .slice A1 c.ws.length c1) rfl
 have k1 := blk_cell h.box 1 (v := .slice A2 c.ps.length c2) rfl
 have k2 := blk_cell h.box 2 (v := .slice A3 c.cs.length c3) rfl
 have HH := Lh (fun W (hg : Chg Non w W) => vhas_ok I (.slice A1 c.ws.length c1) (.slice A3 c.cs.length c3) A2 c.ps c2 p W (h.non hg).ps h.l2.1 h.l2.2 rfl rfl)
 have HE : Hid (winBad c ⟨l, p⟩ = (decide (p ≠ 0) && !hasB c.ps p)) := Lh rfl
 obtain ⟨q, hq⟩ : ∃ q, hasB c.ps p = q := ⟨_, rfl⟩
 simp only [hq] at HH HE
 simp only
 clear h hq
 by_cases h0 : p = 0
 ·subst h0
  go_enter Tryz.func355, Tryz.ntmps355
  go_wp2_with fail
  go_ret
  exact ⟨ret_b (by rw [HE.out]; rfl), (Chg.refl _ _).alloc _⟩
 ·have hne : (p != 0) = true := by simpa using h0
  go_enter Tryz.func355, Tryz.ntmps355
  go_wp2_with fail
  refine (HH.out _ ((Chg.refl Non w).alloc _)).mono ?_
  rintro e u ⟨rfl, hg⟩
  go_wp2_with fail
  go_ret
  exact ⟨ret_b (by rw [HE.out]; simp [h0]), ((Chg.refl Non w).alloc _).then_non hg⟩
def windowsBad (c : Cfg) : Bool := !schMay c.ws || c.ws.any (winBad c)
theorem windows_ok (I : Nat → Prop) (w : World) (c : Cfg) (A1 A2 A3 : Option Addr) (c1 c2 c3 : Nat) (h : ∀ W g, Chg Non w W → W.heap[g]? = some (.cells #[.slice A1 c.ws.length c1, .slice A2 c.ps.length c2, .slice A3 c.cs.length c3] 28 (0, 0)) → CfgB I W c g A1 A2 A3 c1 c2 c3) :
  Calls Tryz.prog 324 #[.agg #[.slice A1 c.ws.length c1, .slice A2 c.ps.length c2, .slice A3 c.cs.length c3]] w fun e w' => e = .returned (.bool (windowsBad c)) ∧ Chg Non w w' := by
 have HB := Lh (h (w.alloc (.cells #[.slice A1 c.ws.length c1, .slice A2 c.ps.length c2, .slice A3 c.cs.length c3] 28)) w.heap.size ((Chg.refl Non w).alloc _) (blk_new _ _))
 have hmf := mk_func
 have HM := Lh (schMay_ok I A1 c.ws c1 _ HB.out.ws HB.out.l1.1 HB.out.l1.2)
 have HQ := Lh (fun W (hg : Chg Non (w.alloc (.cells #[.slice A1 c.ws.length c1, .slice A2 c.ps.length c2, .slice A3 c.cs.length c3] 28)) W) => anyWindows winV I winV_non (winBad c) (.pointer (some ⟨w.heap.size, 0, none⟩)) A1 c.ws c1 W (HB.out.non hg).ws (by
   rintro W' a vs hg2 ha ⟨rfl, _⟩
   exact win1_ok I W' c w.heap.size A1 A2 A3 c1 c2 c3 ((HB.out.non hg).non hg2) a) HB.out.l1.1 HB.out.l1.2)
 have HE : Hid (windowsBad c = (!schMay c.ws || c.ws.any (winBad c))) := Lh rfl
 obtain ⟨m, hm⟩ : ∃ m, schMay c.ws = m := ⟨_, rfl⟩
 obtain ⟨q, hq⟩ : ∃ q, c.ws.any (winBad c) = q := ⟨_, rfl⟩
 simp only [hm] at HM HE
 simp only [hq] at HQ HE
 clear h hm hq
 cases m with
 | false =>
  go_enter Tryz.func324, Tryz.ntmps324
  go_wp2_with fail
  refine HM.out.mono ?_
  rintro e u ⟨rfl, hg⟩
  go_wp2_with fail
  go_ret
  exact ⟨ret_b (by rw [HE.out]; rfl), ((Chg.refl Non w).alloc _).then_non hg⟩
 | true =>
  go_enter Tryz.func324, Tryz.ntmps324
  go_wp2_with fail
  refine HM.out.mono ?_
  rintro e u ⟨rfl, hg⟩
  have HG := Lh hg
  have k0 := blk_cell (blk_call hg) 0 (v := .slice A1 c.ws.length c1) rfl
  clear hg
  go_wp2_with fail
  refine (HQ.out _ HG.out).mono ?_
  rintro e u2 ⟨rfl, hg⟩
  go_wp2_with fail
  go_ret
  exact ⟨ret_b (by rw [HE.out]; rfl), (((Chg.refl Non w).alloc _).then_non HG.out).then_non hg⟩
def regBad (a : Pn) : Bool := !regMay a.base a.size || decide ((a.img.length : Int) > a.size)
theorem reg1_ok (w : World) (a : Pn) (A : Option Addr) (c : Nat) :
  Calls Tryz.prog 357 #[.agg #[.int .i64 a.id, .int .i64 a.base, .int .i64 a.size, .bool a.keep, .slice A a.img.length c]] w fun e w' => e = .returned (.bool (regBad a)) ∧ Chg Non w w' := by
 obtain ⟨x, b, s, k, im⟩ := a
 simp only
 have HM := Lh (fun W => regMay_ok b s W)
 have HE : Hid (regBad ⟨x, b, s, k, im⟩ = (!regMay b s || decide ((im.length : Int) > s))) := Lh rfl
 obtain ⟨m, hm⟩ : ∃ m, regMay b s = m := ⟨_, rfl⟩
 simp only [hm] at HM HE
 clear hm
 obtain ⟨n, hn⟩ : ∃ n, im.length = n := ⟨_, rfl⟩
 rw [hn] at HE ⊢
 clear hn
 cases m with
 | false =>
  go_enter Tryz.func357, Tryz.ntmps357
  go_wp2_with fail
  refine (HM.out _).mono ?_
  rintro e u ⟨rfl, hg⟩
  go_wp2_with fail
  go_ret
  exact ⟨ret_b (by rw [HE.out]; rfl), ((Chg.refl Non w).alloc _).then_non hg⟩
 | true =>
  go_enter Tryz.func357, Tryz.ntmps357
  go_wp2_with fail
  refine (HM.out _).mono ?_
  rintro e u ⟨rfl, hg⟩
  have hb := blk_call hg
  have k2 := blk_cell hb 2 (v := .int .i64 s) rfl
  have k4 := blk_cell hb 4 (v := .slice A n c) rfl
  clear hb
  go_wp2_with fail
  go_ret
  exact ⟨ret_b (by rw [HE.out]; rfl), ((Chg.refl Non w).alloc _).then_non hg⟩
def regionsBad (c : Cfg) : Bool := c.ps.any regBad
theorem regions_ok (I : Nat → Prop) (w : World) (c : Cfg) (va vd : Value) (A2 : Option Addr) (c2 : Nat) (hr : RdL (pnV I) I 5 w A2 c.ps) (h1 : c.ps.length ≤ c2) (h2 : c2 ≤ maxLen) (o1 : va.oneCell' = true) (o2 : vd.oneCell' = true) :
  Calls Tryz.prog 326 #[.agg #[va, .slice A2 c.ps.length c2, vd]] w fun e w' => e = .returned (.bool (regionsBad c)) ∧ Chg Non w w' := by
 have HQ := Lh (fun W (hg : Chg Non w W) => anyRegions (pnV I) I pnV_non regBad A2 c.ps c2 W (hr.non hg (fun a vs h => pnV_non _ _ _ _ hg h)) (by
   rintro W' a vs hg2 ha ⟨m, rfl, ⟨A, c, rfl, _⟩, _⟩
   exact reg1_ok W' a A c) h1 h2)
 have HE : Hid (regionsBad c = c.ps.any regBad) := Lh rfl
 clear hr
 go_enter Tryz.func326, Tryz.ntmps326
 go_wp2_with fail
 refine (HQ.out _ ((Chg.refl Non w).alloc _)).mono ?_
 rintro e u ⟨rfl, hg⟩
 go_wp2_with fail
 go_ret
 exact ⟨rfl, ((Chg.refl Non w).alloc _).then_non hg⟩
def chBad (c : Cfg) (a : Ch) : Bool := !hasB c.ps a.src || !hasB c.ps a.dst
theorem ch1_ok (I : Nat → Prop) (w : World) (c : Cfg) (g : Nat) (A1 A2 A3 : Option Addr) (c1 c2 c3 : Nat) (h : CfgB I w c g A1 A2 A3 c1 c2 c3) (a : Ch) :
  Calls Tryz.prog 362 #[.agg #[.int .i64 a.id, .int .i64 a.src, .int .i64 a.dst, .int .i64 a.cap, .int .i64 a.size], .pointer (some ⟨g, 0, none⟩)] w fun e w' => e = .returned (.bool (chBad c a)) ∧ Chg Non w w' := by
 obtain ⟨id, src, dst, cap, size⟩ := a
 have hlt := blk_lt h.box
 have HB := Lh h
 have k0 := blk_cell h.box 0 (v := .slice A1 c.ws.length c1) rfl
 have k1 := blk_cell h.box 1 (v := .slice A2 c.ps.length c2) rfl
 have k2 := blk_cell h.box 2 (v := .slice A3 c.cs.length c3) rfl
 have H1 := Lh (fun W (hg : Chg Non w W) => vhas_ok I (.slice A1 c.ws.length c1) (.slice A3 c.cs.length c3) A2 c.ps c2 src W (h.non hg).ps h.l2.1 h.l2.2 rfl rfl)
 have H2 := Lh (fun W (hg : Chg Non w W) => vhas_ok I (.slice A1 c.ws.length c1) (.slice A3 c.cs.length c3) A2 c.ps c2 dst W (h.non hg).ps h.l2.1 h.l2.2 rfl rfl)
 have HE : Hid (chBad c ⟨id, src, dst, cap, size⟩ = (!hasB c.ps src || !hasB c.ps dst)) := Lh rfl
 obtain ⟨q1, hq1⟩ : ∃ q, hasB c.ps src = q := ⟨_, rfl⟩
 obtain ⟨q2, hq2⟩ : ∃ q, hasB c.ps dst = q := ⟨_, rfl⟩
 simp only [hq1] at H1 HE
 simp only [hq2] at H2 HE
 simp only
 clear h hq1 hq2
 cases q1 with
 | false =>
  go_enter Tryz.func362, Tryz.ntmps362
  go_wp2_with fail
  refine (H1.out _ ((Chg.refl Non w).alloc _)).mono ?_
  rintro e u ⟨rfl, hg⟩
  go_wp2_with fail
  go_ret
  exact ⟨ret_b (by rw [HE.out]; rfl), ((Chg.refl Non w).alloc _).then_non hg⟩
 | true =>
  go_enter Tryz.func362, Tryz.ntmps362
  go_wp2_with fail
  refine (H1.out _ ((Chg.refl Non w).alloc _)).mono ?_
  rintro e u ⟨rfl, hg⟩
  have hgw := ((Chg.refl Non w).alloc _).then_non hg
  have HG := Lh hgw
  have hb := blk_keep HB.out.box hgw (fun e => e)
  have j0 := blk_cell hb 0 (v := .slice A1 c.ws.length c1) rfl
  have j1 := blk_cell hb 1 (v := .slice A2 c.ps.length c2) rfl
  have j2 := blk_cell hb 2 (v := .slice A3 c.cs.length c3) rfl
  have jd := blk_cell (blk_call hg) 2 (v := .int .i64 dst) rfl
  clear hb hg hgw
  go_wp2_with fail
  refine (H2.out _ HG.out).mono ?_
  rintro e u2 ⟨rfl, hg⟩
  go_wp2_with fail
  go_ret
  exact ⟨ret_b (by rw [HE.out]; rfl), HG.out.then_non hg⟩
end
end Go.Proofs.YtajkajgifigmbaaGreat
