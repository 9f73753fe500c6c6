/- KernelApart, part 8 of 27: contracts of the functions that it reaches, and the laws that they need, merged and shortened (from my texts XOwnL, XValE, XValF, XLdW, XGrL). -/
import Derived.Test.YtmnaleaghfbclaaGreatDoorMgKernelApartE
import Derived.Test.YtmnaleaghfbclaaGreatDoorMgKernelApartF
import Derived.Test.YtmnaleaghfbclaaGreatDoorMgKernelApartG
import Derived.Deep.AppendLies
import Derived.Maps.AppendAt
namespace Go.Proofs.YtmnaleaghfbclaaGreatDoor
set_option linter.unusedVariables false
set_option linter.unusedSimpArgs false
set_option maxHeartbeats 8000000
section
open Go.RowKit
theorem addr_none (b o k : Nat) : (⟨b, o, none⟩ : Addr).add k = ⟨b, o + k, none⟩ := by
 unfold Addr.add
 split <;> simp_all
theorem flat_get {α : Type} {xss : List (List α)} {sz : Nat} (h : ∀ x ∈ xss, x.length = sz) {i j : Nat} {x : List α} {a : α} (hi : xss[i]? = some x) (hj : x[j]? = some a) : xss.flatten[i * sz + j]? = some a := by
 induction xss generalizing i with
 | nil => simp at hi
 | cons y t ih =>
  have hy := h y (List.mem_cons_self ..)
  cases i with
  | zero =>
   simp only [List.getElem?_cons_zero, Option.some.injEq] at hi
   subst hi
   rw [List.flatten_cons, Nat.zero_mul, Nat.zero_add, List.getElem?_append_left (List.getElem?_eq_some_iff.1 hj).1]
   exact hj
  | succ i =>
   rw [List.getElem?_cons_succ] at hi
   rw [List.flatten_cons, List.getElem?_append_right (by rw [hy, Nat.succ_mul]; omega), hy, show (i + 1) * sz + j - sz = i * sz + j by rw [Nat.succ_mul]; omega]
   exact ih (fun x hx => h x (List.mem_cons_of_mem _ hx)) hi
def OwnL {α : Type} (R : World → α → List Value → Prop) (B : Nat) (e : TypeId) (sz : Nat) (w : World) (v : Value) (l : List α) : Prop :=
 ∃ xss : List (List Value), w.ownsRow B e sz v l.length xss.flatten ∧ xss.length = l.length ∧ (∀ x ∈ xss, x.length = sz) ∧ ∀ (i : Nat) (a : α) (x : List Value), l[i]? = some a → xss[i]? = some x → R w a x
namespace OwnL
variable {α : Type} {R : World → α → List Value → Prop} {B : Nat} {e : TypeId} {sz : Nat} {w w' : World} {v : Value} {l : List α}
theorem nil (R : World → α → List Value → Prop) (B : Nat) (e : TypeId) (sz : Nat) (w : World) : OwnL R B e sz w (.slice none 0 0) [] := ⟨[], World.ownsRow_nil _ _ _ _, rfl, (fun x h => by cases h), (fun i a x h => by simp at h)⟩
theorem keep {S : Nat → Prop} (h : OwnL R B e sz w v l) (hg : Chg S w w') (hn : ∀ g, v.ownBlock = some g → ¬ S g) (hR : ∀ a vs, R w a vs → R w' a vs) : OwnL R B e sz w' v l := by
 obtain ⟨xss, ⟨h1, h2⟩, h3, h4, h5⟩ := h
 refine ⟨xss, ⟨h1, ?_⟩, h3, h4, fun i a x ha hx => hR _ _ (h5 i a x ha hx)⟩
 rcases h2 with h0 | ⟨g, cap, cur, rfl, hB, hb, r1⟩
 ·exact .inl h0
 ·exact .inr ⟨g, cap, cur, rfl, hB, (hg.block g (Array.getElem?_eq_some_iff.1 hb).1 (hn g rfl)).trans hb, r1⟩
theorem non (h : OwnL R B e sz w v l) (hg : Chg Non w w') (hR : ∀ a vs, R w a vs → R w' a vs) : OwnL R B e sz w' v l := h.keep hg (fun _ _ e => e) hR
theorem ge (h : OwnL R B e sz w v l) {g : Nat} (hg : v.ownBlock = some g) : B ≤ g ∧ g < w.heap.size := by
 obtain ⟨xss, ⟨h1, h2⟩, _⟩ := h
 rcases h2 with ⟨rfl, _⟩ | ⟨g2, cap, cur, rfl, hB, hb, _⟩
 ·simp [Value.ownBlock] at hg
 ·obtain rfl : g2 = g := by simpa [Value.ownBlock] using hg
  exact ⟨hB, blk_lt hb⟩
theorem rd (h : OwnL R B e sz w v l) : ∃ A c, v = .slice A l.length c ∧ l.length ≤ c ∧ c ≤ maxLen ∧ RdL R (fun b => v.ownBlock = some b) sz w A l := by
 obtain ⟨xss, hown, h3, h4, h5⟩ := h
 rcases hown.2 with ⟨rfl, h0⟩ | ⟨g, cap, cur, rfl, hB, hb, r1, r2, r3, r4⟩
 ·have : l = [] := List.eq_nil_of_length_eq_zero h0
  subst this
  exact ⟨none, 0, rfl, Nat.le_refl _, by simp, RdL.nil _ _ _ _ _⟩
 ·refine ⟨_, cap, rfl, r1, r2, fun i a ha => ?_⟩
  have hil := (List.getElem?_eq_some_iff.1 ha).1
  obtain ⟨x, hx⟩ : ∃ x, xss[i]? = some x := ⟨_, List.getElem?_eq_getElem (by omega)⟩
  refine ⟨g, 0, x, rfl, rfl, h4 x (List.mem_of_getElem? hx), fun j v hv => ?_, h5 i a x ha hx⟩
  have hf := flat_get h4 hx hv
  rw [cell_of_row _ _ _ _ _ _ hb, Nat.zero_add]
  rw [← r4] at hf
  have hlt : i * sz + j < l.length * sz := by
   have := (List.getElem?_eq_some_iff.1 hf).1
   rw [List.length_take] at this
   omega
  rw [List.getElem?_take_of_lt hlt, Array.getElem?_toList] at hf
  exact hf
end OwnL
theorem wpList_snocL {P : Program} {α : Type} (R : World → α → List Value → Prop) {ops : Array Oper} {rest : List Oper} {o : Oper} {a : Act} {w : World} {Q : Exit → Act → World → Prop} (hgd : o.guard = none) (s x : Operand) (t : TypeId)
  (ho : o.op = .call { callee := .builtin .append, args := #[s, x], argTypes := #[t, t] }) (B : Nat) (e : TypeId) (z : Value) (sz bytes : Nat) (ht : P.underlying t = some (.slice e)) (hi : (P.info? e).map (fun i => (i.zero, i.size, i.bytes)) = some (some z, sz, bytes))
  (hzs : z.cells.size = sz) (hsz : 0 < sz) (v : Value) (l : List α) (hs : a.eval s = v) (hown : OwnL R B e sz w v l) (b : Nat) (k : α) (cs : Array Value) (tb : TypeId) (hx : a.eval x = .slice (some ⟨b, 0, none⟩) 1 1) (hb : w.heap[b]? = some (.cells cs tb (0, 0))) (hcs : cs.size = sz) (h1 : cs.all (·.oneCell') = true)
  (hl : l.length ≤ 1000000) (hby : bytes ≤ 100000) (hB : B ≤ w.heap.size) (hR : ∀ w' a vs, Chg (fun k => v.ownBlock = some k) w w' → R w a vs → R w' a vs) (ha : R w k cs.toList)
  (h : ∀ v2 w2, OwnL R B e sz w2 v2 (l ++ [k]) → Chg (fun k => v.ownBlock = some k) w w2 → (∀ g, v2.ownBlock = some g → v.ownBlock = some g ∨ g = w.heap.size) → wpList P ops Q rest (a.put o.dst v2) w2) : wpList P ops Q (o :: rest) a w := by
 obtain ⟨i0, hi0, hz0, hs0, hb0⟩ := info_parts hi
 have hown' := hown
 obtain ⟨xss, hro, h3, h4, h5⟩ := hown
 refine wpList_append_lies w hgd s x t ho B e i0 z sz bytes ht hi0 hz0 hs0 hb0 hzs hsz v l.length xss.flatten hs hro ⟨b, 0, none⟩ 1 1 cs.toList hx (by simp [hcs]) ?_ ?_ (by omega) (by unfold maxLen; omega) (Nat.le_trans (Nat.mul_le_mul (show l.length + 1 ≤ 1000001 by omega) hby) (by omega)) hB _ rfl ?_
 ·intro j u hu
  rw [addr_none, Nat.zero_add, cell_of_row _ _ _ _ _ _ hb]
  simpa using hu
 ·intro u hu
  have := Array.all_eq_true.1 h1
  obtain ⟨i, hi⟩ := List.getElem?_of_mem hu
  rw [Array.getElem?_toList] at hi
  obtain ⟨hlt, e⟩ := Array.getElem?_eq_some_iff.1 hi
  have := this i hlt
  rw [e] at this
  exact this
 ·intro g cap w2 h2 hgrow hat hlt
  have hg : Chg (fun k => v.ownBlock = some k) w w2 := (Chg.refl (fun k => v.ownBlock = some k) w).grown hgrow fun g' hg' => .inl hg'
  refine h _ _ ?_ hg (fun g' e => by
    have : g = g' := by simpa [Value.ownBlock] using e
    subst this
    exact hat)
  refine ⟨xss ++ [cs.toList], ?_, by simp [h3], ?_, ?_⟩
  ·rw [List.length_append, List.flatten_append]
   simpa using h2
  ·intro x hx
   rcases List.mem_append.1 hx with hx | hx
   ·exact h4 x hx
   ·obtain rfl := List.mem_singleton.1 hx
    rw [Array.length_toList, hcs]
  ·intro i c x hc hx
   by_cases hil : i < l.length
   ·rw [List.getElem?_append_left hil] at hc
    rw [List.getElem?_append_left (by omega)] at hx
    exact hR _ _ _ hg (h5 i c x hc hx)
   ·have hil2 : i < (l ++ [k]).length := (List.getElem?_eq_some_iff.1 hc).1
    obtain rfl : i = l.length := by simp at hil2; omega
    rw [List.getElem?_append_right (Nat.le_refl _), Nat.sub_self] at hc
    rw [List.getElem?_append_right (by omega), h3, Nat.sub_self] at hx
    simp only [List.getElem?_cons_zero, Option.some.injEq] at hc hx
    subst hc hx
    exact hR _ _ _ hg ha
theorem wpList_cloneL {P : Program} {α : Type} (R : World → α → List Value → Prop) {ops : Array Oper} {rest : List Oper} {o : Oper} {a : Act} {w : World} {Q : Exit → Act → World → Prop} (hgd : o.guard = none) (s x : Operand) (t : TypeId)
  (ho : o.op = .call { callee := .builtin .append, args := #[s, x], argTypes := #[t, t] }) (e : TypeId) (z : Value) (sz bytes : Nat) (ht : P.underlying t = some (.slice e)) (hi : (P.info? e).map (fun i => (i.zero, i.size, i.bytes)) = some (some z, sz, bytes))
  (hzs : z.cells.size = sz) (hsz : 0 < sz) (B g0 : Nat) (hs : a.eval s = .slice (some ⟨g0, 0, none⟩) 0 0) (hg0 : w.heap[g0]? = some (.cells #[] e (0, 0))) (hB : B ≤ g0) (I : Nat → Prop) (b o2 : Nat) (l : List α) (c : Nat) (hx : a.eval x = .slice (some ⟨b, o2, none⟩) l.length c) (hl0 : l ≠ []) (hr : RdL R I sz w (some ⟨b, o2, none⟩) l) (hone : ∀ a vs, R w a vs → ∀ u ∈ vs, u.oneCell' = true)
  (hl : l.length ≤ 1000000) (hby : bytes ≤ 100000) (hR : ∀ w' a vs, Chg (fun k => k = g0) w w' → R w a vs → R w' a vs)
  (h : ∀ v2 w2, OwnL R B e sz w2 v2 l → Chg (fun k => k = g0) w w2 → (∀ g, v2.ownBlock = some g → g = g0 ∨ g = w.heap.size) → wpList P ops Q rest (a.put o.dst v2) w2) : wpList P ops Q (o :: rest) a w := by
 obtain ⟨i0, hi0, hz0, hs0, hb0⟩ := info_parts hi
 have hpos : 0 < l.length := List.length_pos_iff.2 hl0
 obtain ⟨b', o', e', hIb, hat⟩ := hr.at_ hpos
 injection e' with e'
 injection e' with e1 e2 _
 subst e1 e2
 have hch : ∀ i, i < l.length → ∃ vs : List Value, vs.length = sz ∧ w.rangeAt b (o2 + i * sz) vs ∧ ∃ a, l[i]? = some a ∧ R w a vs := fun i hi => by
  obtain ⟨vs, h1, h2, h3⟩ := hat i l[i] (List.getElem?_eq_getElem hi)
  exact ⟨vs, h1, h2, l[i], List.getElem?_eq_getElem hi, h3⟩
 obtain ⟨xss, hxl, hxp⟩ : ∃ xss : List (List Value), xss.length = l.length ∧ ∀ (i : Nat) (x : List Value), xss[i]? = some x → x.length = sz ∧ w.rangeAt b (o2 + i * sz) x ∧ ∃ a, l[i]? = some a ∧ R w a x := by
  clear h hr hat
  have key : ∀ n, n ≤ l.length → ∃ xss : List (List Value), xss.length = n ∧ ∀ (i : Nat) (x : List Value), xss[i]? = some x → x.length = sz ∧ w.rangeAt b (o2 + i * sz) x ∧ ∃ a, l[i]? = some a ∧ R w a x := by
   intro n
   induction n with
   | zero => exact fun _ => ⟨[], rfl, fun i x h => by simp at h⟩
   | succ n ih =>
    intro hn
    obtain ⟨xs, h1, h2⟩ := ih (by omega)
    obtain ⟨vs, hv1, hv2, hv3⟩ := hch n (by omega)
    refine ⟨xs ++ [vs], by simp [h1], fun i x hx => ?_⟩
    by_cases hi : i < n
    ·rw [List.getElem?_append_left (by omega)] at hx
     exact h2 i x hx
    ·have := (List.getElem?_eq_some_iff.1 hx).1
     obtain rfl : i = n := by simp [h1] at this; omega
     rw [List.getElem?_append_right (by omega), h1, Nat.sub_self] at hx
     simp only [List.getElem?_cons_zero, Option.some.injEq] at hx
     subst hx
     exact ⟨hv1, hv2, hv3⟩
  exact key _ (Nat.le_refl _)
 have hall : ∀ x ∈ xss, x.length = sz := fun x hx => by
  obtain ⟨i, hi⟩ := List.getElem?_of_mem hx
  exact (hxp i x hi).1
 have hfl : xss.flatten.length = l.length * sz := by
  rw [← hxl]
  clear hxp hxl h hr hat hch
  induction xss with
  | nil => simp
  | cons y t ih =>
   rw [List.flatten_cons, List.length_append, hall y (List.mem_cons_self ..), ih (fun x hx => hall x (List.mem_cons_of_mem _ hx)), List.length_cons, Nat.succ_mul]
   omega
 have hown : w.ownsRow B e sz (.slice (some ⟨g0, 0, none⟩) 0 0) 0 [] := ⟨by simp, .inr ⟨g0, 0, #[], rfl, hB, hg0, Nat.le_refl _, by simp, by simp, by simp⟩⟩
 refine wpList_append_lies w hgd s x t ho B e i0 z sz bytes ht hi0 hz0 hs0 hb0 hzs hsz _ 0 [] hs hown ⟨b, o2, none⟩ l.length c xss.flatten hx hfl ?_ ?_ hpos (by unfold maxLen; omega) (by rw [Nat.zero_add]; exact Nat.le_trans (Nat.mul_le_mul hl hby) (by omega)) (by have := blk_lt hg0; omega) _ rfl ?_
 ·intro j u hu
  have hjl : j < l.length * sz := by rw [← hfl]; exact (List.getElem?_eq_some_iff.1 hu).1
  have hdm : j = j / sz * sz + j % sz := by rw [Nat.mul_comm]; exact (Nat.div_add_mod j sz).symm
  have hdl : j / sz < l.length := (Nat.div_lt_iff_lt_mul hsz).2 hjl
  obtain ⟨x, hx⟩ : ∃ x, xss[j / sz]? = some x := ⟨_, List.getElem?_eq_getElem (by omega)⟩
  obtain ⟨q1, q2, _⟩ := hxp _ _ hx
  obtain ⟨u', hu'⟩ : ∃ u', x[j % sz]? = some u' := ⟨_, List.getElem?_eq_getElem (by rw [q1]; exact Nat.mod_lt _ hsz)⟩
  have := flat_get hall hx hu'
  rw [← hdm, hu] at this
  injection this with this
  subst this
  have hc := q2 _ _ hu'
  rw [addr_none]
  have he : o2 + j / sz * sz + j % sz = o2 + j := by omega
  rw [he] at hc
  exact hc
 ·intro u hu
  obtain ⟨x, hx, hux⟩ := List.mem_flatten.1 hu
  obtain ⟨i, hi⟩ := List.getElem?_of_mem hx
  obtain ⟨_, _, a', _, hRa⟩ := hxp i x hi
  exact hone a' x hRa u hux
 ·intro g cap w2 h2 hgrow hat2 hlt
  have hg : Chg (fun k => k = g0) w w2 := (Chg.refl (fun k => k = g0) w).grown hgrow fun g' hg' => .inl (by simpa [Value.ownBlock, eq_comm] using hg')
  refine h _ _ ⟨xss, by simpa using h2, hxl, hall, fun i c x hc hx => ?_⟩ hg (fun g' e => by
    have : g = g' := by simpa [Value.ownBlock] using e
    subst this
    rcases hat2 with e | e
    · exact .inl (by simpa [Value.ownBlock, eq_comm] using e)
    · exact .inr e)
  obtain ⟨_, _, c', hc', hRc⟩ := hxp i x hx
  rw [hc] at hc'
  injection hc' with hc'
  subst hc'
  exact hR _ _ _ hg hRc
end
section
open Go.RowKit
theorem info_reg : (Tryz.prog.info? 81).map (fun i => (i.zero, i.size, i.bytes)) = some (some (.agg #[.int .i64 0, .int .i64 0]), 2, 16) := by kernel_rfl
def mayRegs (ps : List Pn) : List Rg := (ps.map fun p => (⟨p.base, p.size⟩ : Rg)).filter Rg.may
theorem mayRegs_snoc {ps : List Pn} {k : Nat} {a : Pn} (h : ps[k]? = some a) : mayRegs (ps.take (k + 1)) = if regMay a.base a.size = true then mayRegs (ps.take k) ++ [⟨a.base, a.size⟩] else mayRegs (ps.take k) := by
 obtain ⟨hk, rfl⟩ := List.getElem?_eq_some_iff.1 h
 rw [List.take_succ_eq_append_getElem hk]
 unfold mayRegs
 rw [List.map_append, List.filter_append]
 show _ ++ List.filter Rg.may [⟨ps[k].base, ps[k].size⟩] = _
 by_cases hm : regMay ps[k].base ps[k].size = true
 ·rw [if_pos hm, List.filter_cons_of_pos (show Rg.may ⟨ps[k].base, ps[k].size⟩ = true from hm)]
  rfl
 ·rw [if_neg hm, List.filter_cons_of_neg (show ¬ Rg.may ⟨ps[k].base, ps[k].size⟩ = true from hm)]
  simp
theorem mayRegs_len (ps : List Pn) : (mayRegs ps).length ≤ ps.length := by
 unfold mayRegs
 exact Nat.le_trans (List.length_filter_le _ _) (by simp)
noncomputable def overlapBad (ps : List Pn) : Bool := decide (regAll (mayRegs ps) ≠ 0)
set_option maxRecDepth 100000 in
theorem overlap_ok (I : Nat → Prop) (w : World) (va vd : Value) (A : Option Addr) (ps : List Pn) (c : Nat) (hr : RdL (pnV I) I 5 w A ps) (hc : ps.length ≤ c) (hm : c ≤ maxLen) (h6 : ps.length ≤ 1000) (o1 : va.oneCell' = true) (o2 : vd.oneCell' = true) :
  Calls Tryz.prog 152 #[.agg #[va, .slice A ps.length c, vd]] w fun e w' => e = .returned (.bool (overlapBad ps)) ∧ Chg Non w w' := by
 unfold maxLen at hm
 have HR := Lib.hid hr
 have HE : Hid (overlapBad ps = decide (regAll (mayRegs ps) ≠ 0)) := Lib.hid rfl
 clear hr
 go_enter Tryz.func152, Tryz.ntmps152
 go_wp2_with fail
 go_loopw [9, 3] (fun iv lv wr => ∃ k : Nat, k ≤ ps.length ∧ iv = .int .i64 k ∧ Hid (OwnL rgV w.heap.size 81 2 wr lv (mayRegs (ps.take k))) ∧ Hid (Chg Non w wr)) (fun iv _ _ => ps.length - (intOf iv).toNat)
 case atStart => exact ⟨0, Nat.zero_le _, rfl, Lib.hid (OwnL.nil _ _ _ _ _), Lib.hid ((Chg.refl _ _).alloc _)⟩
 case round =>
  obtain ⟨k, hk, rfl, HO, HG⟩ := hrel
  by_cases hlt : k < ps.length
  ·obtain ⟨a, ha⟩ : ∃ a, ps[k]? = some a := ⟨_, List.getElem?_eq_getElem hlt⟩
   obtain ⟨b, o, m, rfl, k0, k1, k2, k3, k4, ⟨A2, c2, rfl, _⟩, _, _, _, _, hbl⟩ := pn_at HR.out HG.out ha
   have hltd : decide ((k : Int) < (ps.length : Int)) = true := by simpa using hlt
   have HS := Lib.hid (mayRegs_snoc ha)
   have HM := Lib.hid (fun W => regMay_ok a.base a.size W)
   obtain ⟨q, hq⟩ : ∃ q, regMay a.base a.size = q := ⟨_, rfl⟩
   rw [hq] at HM HS
   clear ha hq
   obtain ⟨x, y, z, kp, im⟩ := a
   simp only at k0 k1 k2 k3 k4 HM HS
   go_wp2_with fail
   refine (HM.out _).mono ?_
   rintro e u ⟨rfl, hg⟩
   have hb := blk_call hg
   have HGu := Lib.hid ((HG.out.alloc _).then_non hg)
   have HOu := Lib.hid ((HO.out.non ((Chg.refl Non wr).alloc _) (fun _ _ h => h)).non hg (fun _ _ h => h))
   have m1 := blk_cell hb 1 (v := .int .i64 y) rfl
   have m2 := blk_cell hb 2 (v := .int .i64 z) rfl
   clear hb hg HO
   cases q with
   | false =>
    have HO2 : Hid (OwnL rgV w.heap.size 81 2 u _ (mayRegs (ps.take (k + 1)))) := Lib.hid (by rw [HS.out]; exact HOu.out)
    go_wp2_with fail
    exact ⟨⟨k + 1, by omega, by simp, HO2, HGu⟩, by simp [intOf]; omega⟩
   | true =>
    go_wp2_with (refine sel (some 20) (.call _) ?_; refine Vm_stop ?_)
    refine HoleV.mk ?_
    refine wpList_snocL rgV rfl (.tmp 16) (.tmp 19) 134 rfl w.heap.size 81 (.agg #[.int .i64 0, .int .i64 0]) 2 16 Tryz.underlying134 info_reg rfl (by omega) u3 (mayRegs (ps.take k)) rfl (HOu.out.non ((Chg.refl Non u).alloc _) (fun _ _ h => h)) u.heap.size ⟨y, z⟩ #[.int .i64 y, .int .i64 z] 81 rfl (blk_new _ _) rfl (by simp [Value.oneCell']) ?_ (by omega) ?_ (fun _ _ _ _ h => h) rfl ?_
    ·have h1 := mayRegs_len (ps.take k)
     rw [List.length_take] at h1
     omega
    ·have := HGu.out.size
     simp
     omega
    intro v2 w2 ho hg hv
    have HO2 : Hid (OwnL rgV w.heap.size 81 2 w2 v2 (mayRegs (ps.take (k + 1)))) := Lib.hid (by rw [HS.out, if_pos (by trivial)]; exact ho)
    have HG2 : Hid (Chg Non w w2) := Lib.hid ((HGu.out.alloc _).then_new hg (fun x e => (HOu.out.ge e).1))
    clear ho hg hv
    go_wp2_with fail
    exact ⟨⟨k + 1, by omega, by simp, HO2, HG2⟩, by simp [intOf]; omega⟩
  ·obtain rfl : k = ps.length := by omega
   have hltd : decide ((ps.length : Int) < (ps.length : Int)) = false := by simp
   have ho := HO.out
   rw [List.take_length] at ho
   obtain ⟨A3, c3, rfl, h1, h2, h3⟩ := ho.rd
   have HA := Lib.hid (regAll_ok _ A3 (mayRegs ps) c3 wr h3 h1 h2)
   clear ho h3 HO h2
   obtain ⟨e0, he0⟩ : ∃ e0, regAll (mayRegs ps) = e0 := ⟨_, rfl⟩
   rw [he0] at HA HE
   clear he0
   go_wp2_with fail
   refine HA.out.mono ?_
   rintro e u ⟨rfl, hg⟩
   have HG2 := Lib.hid (HG.out.then_non hg)
   clear hg
   go_wp2_with fail
   go_ret
   exact ⟨ret_b (by rw [HE.out]; by_cases h : e0 = 0 <;> simp [h]), HG2.out⟩
def rulesV : Array Value := #[.int .i64 90, .func (.func 149) #[] #[], .int .i64 120, .func (.func 150) #[] #[], .int .i64 80, .func (.func 151) #[] #[], .int .i64 121, .func (.func 152) #[] #[], .int .i64 100, .func (.func 153) #[] #[]]
set_option maxRecDepth 100000 in
theorem rules_ok (w : World) : Calls Tryz.prog 132 #[] w fun e w' => e = .returned (.agg rulesV) ∧ Chg Non w w' := by
 go_enter Tryz.func132, Tryz.ntmps132
 go_wp2_with (first
   | (refine sel (some 6) (.build 221 _) ?_; refine wpList_valA rfl (some 6) (.agg rulesV) rfl (by kernel_rfl) ?_)
   | (refine sel none (.store 221 (.tmp 0) (.tmp 6)) ?_
      refine wpList_store_rowA rfl 221 (.tmp 0) (.tmp 6) rfl w.heap.size rulesV rfl rfl 221 _ (blk_new _ _) (by kernel_rfl) rfl (by simp [rulesV, Value.oneCell']) ?_
      intro W hgW hbW))
 exact bodyPost_ret (res_c Tryz.results132 _ _ w.heap.size 221 rulesV (0, 0) _ (by kernel_rfl) hbW Tryz.underlying221 rfl (by kernel_rfl)) (by kernel_rfl) ⟨rfl, ((Chg.refl Non w).alloc _).then_new hgW (fun x e => by omega)⟩
def errV : World → Int → List Value → Prop := fun _ x vs => vs = [.int .i64 x]
theorem info_err : (Tryz.prog.info? 40).map (fun i => (i.zero, i.size, i.bytes)) = some (some (.int .i64 0), 1, 8) := by kernel_rfl
noncomputable def wrongs (c : Cfg) : List (Int × Bool) := [(90, windowsBad c), (120, partsBad c.ps), (80, regionsBad c), (121, overlapBad c.ps), (100, channelsBad c)]
noncomputable def errsTo (c : Cfg) (k : Nat) : List Int := (((wrongs c).take k).filter (·.2)).map (·.1)
theorem errsTo_succ (c : Cfg) {k : Nat} {e : Int} {q : Bool} (h : (wrongs c)[k]? = some (e, q)) : errsTo c (k + 1) = if q = true then errsTo c k ++ [e] else errsTo c k := by
 obtain ⟨hk, he⟩ := List.getElem?_eq_some_iff.1 h
 unfold errsTo
 rw [List.take_succ_eq_append_getElem hk, he, List.filter_append, List.map_append]
 cases q <;> simp
theorem errsTo_len (c : Cfg) (k : Nat) : (errsTo c k).length ≤ 5 := by
 unfold errsTo
 rw [List.length_map]
 refine Nat.le_trans (List.length_filter_le _ _) ?_
 rw [List.length_take]
 simp [wrongs]
 omega
end
section
open Go.RowKit
structure CfgR (I : Nat → Prop) (w : World) (c : Cfg) (A1 A2 A3 : Option Addr) (c1 c2 c3 : Nat) : Prop where
 ws : RdL winV I 2 w A1 c.ws
 ps : RdL (pnV I) I 5 w A2 c.ps
 cs : RdL chV I 5 w A3 c.cs
 l1 : c.ws.length ≤ c1 ∧ c1 ≤ maxLen
 l2 : c.ps.length ≤ c2 ∧ c2 ≤ maxLen
 l3 : c.cs.length ≤ c3 ∧ c3 ≤ maxLen
theorem CfgR.non {I : Nat → Prop} {w w' : World} {c : Cfg} {A1 A2 A3 : Option Addr} {c1 c2 c3 : Nat} (h : CfgR I w c A1 A2 A3 c1 c2 c3) (hg : Chg Non w w') : CfgR I w' c A1 A2 A3 c1 c2 c3 :=
 ⟨h.ws.non hg (fun _ _ h => h), h.ps.non hg (fun a vs h => pnV_non _ _ _ _ hg h), h.cs.non hg (fun _ _ h => h), h.l1, h.l2, h.l3⟩
theorem CfgR.box {I : Nat → Prop} {w : World} {c : Cfg} {A1 A2 A3 : Option Addr} {c1 c2 c3 : Nat} (h : CfgR I w c A1 A2 A3 c1 c2 c3) : ∀ W g, Chg Non w W → W.heap[g]? = some (.cells #[.slice A1 c.ws.length c1, .slice A2 c.ps.length c2, .slice A3 c.cs.length c3] 26 (0, 0)) → CfgB I W c g A1 A2 A3 c1 c2 c3 := fun W g hg hb =>
 ⟨hb, (h.non hg).ws, (h.non hg).ps, (h.non hg).cs, h.l1, h.l2, h.l3⟩
def ErrsP (l : List Int) (w : World) (e : Ending) (w' : World) : Prop := ∃ v, e = .returned v ∧ OwnL errV w.heap.size 40 1 w' v l ∧ Chg Non w w'
set_option maxRecDepth 100000 in
theorem vAll_ok (I : Nat → Prop) (w : World) (c : Cfg) (A1 A2 A3 : Option Addr) (c1 c2 c3 : Nat) (h : CfgR I w c A1 A2 A3 c1 c2 c3) (h20 : c.ps.length ≤ 1000) :
  Calls Tryz.prog 111 #[.agg #[.slice A1 c.ws.length c1, .slice A2 c.ps.length c2, .slice A3 c.cs.length c3]] w (ErrsP (errsTo c 5) w) := by
 have HRl := Lib.hid (fun W => rules_ok W)
 have H0 := Lib.hid (fun W (hg : Chg Non w W) => windows_ok I W c A1 A2 A3 c1 c2 c3 (h.non hg).box)
 have H1 := Lib.hid (fun W (hg : Chg Non w W) => parts_ok I W (.slice A1 c.ws.length c1) (.slice A3 c.cs.length c3) A2 c.ps c2 (h.non hg).ps h.l2.1 h.l2.2 rfl rfl)
 have H2 := Lib.hid (fun W (hg : Chg Non w W) => regions_ok I W c (.slice A1 c.ws.length c1) (.slice A3 c.cs.length c3) A2 c2 (h.non hg).ps h.l2.1 h.l2.2 rfl rfl)
 have H3 := Lib.hid (fun W (hg : Chg Non w W) => overlap_ok I W (.slice A1 c.ws.length c1) (.slice A3 c.cs.length c3) A2 c.ps c2 (h.non hg).ps h.l2.1 h.l2.2 h20 rfl rfl)
 have H4 := Lib.hid (fun W (hg : Chg Non w W) => channels_ok I W c A1 A2 A3 c1 c2 c3 (h.non hg).box)
 clear h
 obtain ⟨q0, hq0⟩ : ∃ q, windowsBad c = q := ⟨_, rfl⟩
 obtain ⟨q1, hq1⟩ : ∃ q, partsBad c.ps = q := ⟨_, rfl⟩
 obtain ⟨q2, hq2⟩ : ∃ q, regionsBad c = q := ⟨_, rfl⟩
 obtain ⟨q3, hq3⟩ : ∃ q, overlapBad c.ps = q := ⟨_, rfl⟩
 obtain ⟨q4, hq4⟩ : ∃ q, channelsBad c = q := ⟨_, rfl⟩
 have HW : Hid (wrongs c = [(90, q0), (120, q1), (80, q2), (121, q3), (100, q4)]) := Lib.hid (by rw [wrongs, hq0, hq1, hq2, hq3, hq4])
 simp only [hq0] at H0
 simp only [hq1] at H1
 simp only [hq2] at H2
 simp only [hq3] at H3
 simp only [hq4] at H4
 clear hq0 hq1 hq2 hq3 hq4
 have i0 : ∀ W, (Instr.index 221 (.agg rulesV) (.int .i64 0)).run Tryz.prog W = .ok (.agg #[.int .i64 90, .func (.func 149) #[] #[]]) W := fun _ => by kernel_rfl
 have i1 : ∀ W, (Instr.index 221 (.agg rulesV) (.int .i64 1)).run Tryz.prog W = .ok (.agg #[.int .i64 120, .func (.func 150) #[] #[]]) W := fun _ => by kernel_rfl
 have i2 : ∀ W, (Instr.index 221 (.agg rulesV) (.int .i64 2)).run Tryz.prog W = .ok (.agg #[.int .i64 80, .func (.func 151) #[] #[]]) W := fun _ => by kernel_rfl
 have i3 : ∀ W, (Instr.index 221 (.agg rulesV) (.int .i64 3)).run Tryz.prog W = .ok (.agg #[.int .i64 121, .func (.func 152) #[] #[]]) W := fun _ => by kernel_rfl
 have i4 : ∀ W, (Instr.index 221 (.agg rulesV) (.int .i64 4)).run Tryz.prog W = .ok (.agg #[.int .i64 100, .func (.func 153) #[] #[]]) W := fun _ => by kernel_rfl
 go_enter Tryz.func111, Tryz.ntmps111
 go_wp2_with fail
 refine (HRl.out _).mono ?_
 rintro e u ⟨rfl, hg⟩
 have hb1 := blk_call hg
 have HG0 := Lib.hid (((Chg.refl Non w).alloc _).then_non hg)
 have HB1 := Lib.hid hb1
 clear hg hb1 HRl
 go_wp2_with fail
 go_loopw [7, 3] (fun iv lv wr => ∃ k : Nat, k ≤ 5 ∧ iv = .int .i64 k ∧ Hid (OwnL errV w.heap.size 40 1 wr lv (errsTo c k)) ∧ Hid (wr.heap[w.heap.size]? = some (.cells #[.slice A1 c.ws.length c1, .slice A2 c.ps.length c2, .slice A3 c.cs.length c3] 26 (0, 0))) ∧ Hid (∀ g, lv.ownBlock = some g → w.heap.size < g) ∧ Hid (Chg Non w wr)) (fun iv _ _ => 5 - (intOf iv).toNat)
 case atStart => exact ⟨0, Nat.zero_le _, rfl, Lib.hid (OwnL.nil _ _ _ _ _), HB1, Lib.hid (fun g e => by simp [Value.ownBlock] at e), HG0⟩
 case round =>
  obtain ⟨k, hk, rfl, HO, HB, HX, HG⟩ := hrel
  have b0 := blk_cell HB.out 0 (v := .slice A1 c.ws.length c1) rfl
  have b1 := blk_cell HB.out 1 (v := .slice A2 c.ps.length c2) rfl
  have b2 := blk_cell HB.out 2 (v := .slice A3 c.cs.length c3) rfl
  have hwl := blk_lt HB.out
  by_cases hlt : k < 5
  ·have : k = 0 ∨ k = 1 ∨ k = 2 ∨ k = 3 ∨ k = 4 := by omega
   rcases this with rfl | rfl | rfl | rfl | rfl
   ·have HS := Lib.hid (fun h => errsTo_succ c (k := 0) (e := 90) (q := q0) h)
    have HS := Lib.hid (HS.out (by rw [HW.out]; rfl))
    clear H1 i1 H2 i2 H3 i3 H4 i4
    go_wp2_with (refine sel none (.store 220 (.tmp 5) (.tmp 9)) ?_
                 refine wpList_store_rowA rfl 220 (.tmp 5) (.tmp 9) rfl wr.heap.size #[.int .i64 90, .func (.func 149) #[] #[]] rfl rfl 220 _ (blk_new _ _) (by kernel_rfl) rfl (by simp [Value.oneCell']) ?_
                 intro V hgV hbV
                 have hgnV : Chg Non wr V := ((Chg.refl Non wr).alloc _).then_new hgV (fun x e => by omega)
                 have b0 := blk_cell (blk_keep HB.out hgnV (fun e => e)) 0 (v := .slice A1 c.ws.length c1) rfl
                 have b1 := blk_cell (blk_keep HB.out hgnV (fun e => e)) 1 (v := .slice A2 c.ps.length c2) rfl
                 have b2 := blk_cell (blk_keep HB.out hgnV (fun e => e)) 2 (v := .slice A3 c.cs.length c3) rfl
                 have z1 := blk_cell hbV 1 (v := .func (.func 149) #[] #[]) rfl
                 have HbV := Lib.hid hbV
                 have HgV := Lib.hid hgnV
                 clear hgV hbV hgnV)
    refine (H0.out _ (HG.out.then_non HgV.out)).mono ?_
    rintro e v ⟨rfl, hg⟩
    have hv0 := blk_keep HbV.out hg (fun e => e)
    have m0 := blk_cell hv0 0 (v := .int .i64 90) rfl
    have HGv := Lib.hid ((HG.out.then_non HgV.out).then_non hg)
    have hgn := HgV.out.then_non hg
    have HBv := Lib.hid (blk_keep HB.out hgn (fun e => e))
    have HOv := Lib.hid (HO.out.non hgn (fun _ _ h => h))
    clear hg hv0 hgn b0 b1 b2
    cases q0 with
    | false =>
     have HO2 : Hid (OwnL errV w.heap.size 40 1 v u3 (errsTo c 1)) := Lib.hid (by rw [HS.out]; exact HOv.out)
     go_wp2_with fail
     exact ⟨⟨1, by omega, by simp, HO2, HBv, HX, HGv⟩, by simp [intOf]⟩
    | true =>
     go_wp2_with (refine sel (some 18) (.call _) ?_; refine Vm_stop ?_)
     refine HoleV.mk ?_
     refine wpList_snocL errV rfl (.tmp 14) (.tmp 17) 190 rfl w.heap.size 40 (.int .i64 0) 1 8 Tryz.underlying190 info_err rfl (by omega) u3 (errsTo c 0) rfl (HOv.out.non ((Chg.refl Non v).alloc _) (fun _ _ h => h)) v.heap.size 90 #[.int .i64 90] 40 rfl (blk_new _ _) rfl (by simp [Value.oneCell']) (by have := errsTo_len c 0; omega) (by omega) (by have := HGv.out.size; simp; omega) (fun _ _ _ _ h => h) rfl ?_
     intro v2 w2 ho hg hv
     have hne : ¬ (u3.ownBlock = some w.heap.size) := fun e => by have := HX.out _ e; omega
     have HO2 : Hid (OwnL errV w.heap.size 40 1 w2 v2 (errsTo c 1)) := Lib.hid (by rw [HS.out, if_pos (by trivial)]; exact ho)
     have HG2 : Hid (Chg Non w w2) := Lib.hid ((HGv.out.alloc _).then_new hg (fun x e => (HOv.out.ge e).1))
     have HB2 := Lib.hid (blk_keep (blk_keep HBv.out ((Chg.refl Non v).alloc _) (fun e => e)) hg hne)
     have HX2 : Hid (∀ g, v2.ownBlock = some g → w.heap.size < g) := Lib.hid (fun g e => by
       rcases hv g e with h | h
       · exact HX.out g h
       · have := blk_lt HBv.out
         simp at h
         omega)
     clear ho hg hv hne
     go_wp2_with fail
     exact ⟨⟨1, by omega, by simp, HO2, HB2, HX2, HG2⟩, by simp [intOf]⟩
   ·have HS := Lib.hid (fun h => errsTo_succ c (k := 1) (e := 120) (q := q1) h)
    have HS := Lib.hid (HS.out (by rw [HW.out]; rfl))
    clear H0 i0 H2 i2 H3 i3 H4 i4
    go_wp2_with (refine sel none (.store 220 (.tmp 5) (.tmp 9)) ?_
                 refine wpList_store_rowA rfl 220 (.tmp 5) (.tmp 9) rfl wr.heap.size #[.int .i64 120, .func (.func 150) #[] #[]] rfl rfl 220 _ (blk_new _ _) (by kernel_rfl) rfl (by simp [Value.oneCell']) ?_
                 intro V hgV hbV
                 have hgnV : Chg Non wr V := ((Chg.refl Non wr).alloc _).then_new hgV (fun x e => by omega)
                 have b0 := blk_cell (blk_keep HB.out hgnV (fun e => e)) 0 (v := .slice A1 c.ws.length c1) rfl
                 have b1 := blk_cell (blk_keep HB.out hgnV (fun e => e)) 1 (v := .slice A2 c.ps.length c2) rfl
                 have b2 := blk_cell (blk_keep HB.out hgnV (fun e => e)) 2 (v := .slice A3 c.cs.length c3) rfl
                 have z1 := blk_cell hbV 1 (v := .func (.func 150) #[] #[]) rfl
                 have HbV := Lib.hid hbV
                 have HgV := Lib.hid hgnV
                 clear hgV hbV hgnV)
    refine (H1.out _ (HG.out.then_non HgV.out)).mono ?_
    rintro e v ⟨rfl, hg⟩
    have hv0 := blk_keep HbV.out hg (fun e => e)
    have m0 := blk_cell hv0 0 (v := .int .i64 120) rfl
    have HGv := Lib.hid ((HG.out.then_non HgV.out).then_non hg)
    have hgn := HgV.out.then_non hg
    have HBv := Lib.hid (blk_keep HB.out hgn (fun e => e))
    have HOv := Lib.hid (HO.out.non hgn (fun _ _ h => h))
    clear hg hv0 hgn b0 b1 b2
    cases q1 with
    | false =>
     have HO2 : Hid (OwnL errV w.heap.size 40 1 v u3 (errsTo c 2)) := Lib.hid (by rw [HS.out]; exact HOv.out)
     go_wp2_with fail
     exact ⟨⟨2, by omega, by simp, HO2, HBv, HX, HGv⟩, by simp [intOf]⟩
    | true =>
     go_wp2_with (refine sel (some 18) (.call _) ?_; refine Vm_stop ?_)
     refine HoleV.mk ?_
     refine wpList_snocL errV rfl (.tmp 14) (.tmp 17) 190 rfl w.heap.size 40 (.int .i64 0) 1 8 Tryz.underlying190 info_err rfl (by omega) u3 (errsTo c 1) rfl (HOv.out.non ((Chg.refl Non v).alloc _) (fun _ _ h => h)) v.heap.size 120 #[.int .i64 120] 40 rfl (blk_new _ _) rfl (by simp [Value.oneCell']) (by have := errsTo_len c 1; omega) (by omega) (by have := HGv.out.size; simp; omega) (fun _ _ _ _ h => h) rfl ?_
     intro v2 w2 ho hg hv
     have hne : ¬ (u3.ownBlock = some w.heap.size) := fun e => by have := HX.out _ e; omega
     have HO2 : Hid (OwnL errV w.heap.size 40 1 w2 v2 (errsTo c 2)) := Lib.hid (by rw [HS.out, if_pos (by trivial)]; exact ho)
     have HG2 : Hid (Chg Non w w2) := Lib.hid ((HGv.out.alloc _).then_new hg (fun x e => (HOv.out.ge e).1))
     have HB2 := Lib.hid (blk_keep (blk_keep HBv.out ((Chg.refl Non v).alloc _) (fun e => e)) hg hne)
     have HX2 : Hid (∀ g, v2.ownBlock = some g → w.heap.size < g) := Lib.hid (fun g e => by
       rcases hv g e with h | h
       · exact HX.out g h
       · have := blk_lt HBv.out
         simp at h
         omega)
     clear ho hg hv hne
     go_wp2_with fail
     exact ⟨⟨2, by omega, by simp, HO2, HB2, HX2, HG2⟩, by simp [intOf]⟩
   ·have HS := Lib.hid (fun h => errsTo_succ c (k := 2) (e := 80) (q := q2) h)
    have HS := Lib.hid (HS.out (by rw [HW.out]; rfl))
    clear H0 i0 H1 i1 H3 i3 H4 i4
    go_wp2_with (refine sel none (.store 220 (.tmp 5) (.tmp 9)) ?_
                 refine wpList_store_rowA rfl 220 (.tmp 5) (.tmp 9) rfl wr.heap.size #[.int .i64 80, .func (.func 151) #[] #[]] rfl rfl 220 _ (blk_new _ _) (by kernel_rfl) rfl (by simp [Value.oneCell']) ?_
                 intro V hgV hbV
                 have hgnV : Chg Non wr V := ((Chg.refl Non wr).alloc _).then_new hgV (fun x e => by omega)
                 have b0 := blk_cell (blk_keep HB.out hgnV (fun e => e)) 0 (v := .slice A1 c.ws.length c1) rfl
                 have b1 := blk_cell (blk_keep HB.out hgnV (fun e => e)) 1 (v := .slice A2 c.ps.length c2) rfl
                 have b2 := blk_cell (blk_keep HB.out hgnV (fun e => e)) 2 (v := .slice A3 c.cs.length c3) rfl
                 have z1 := blk_cell hbV 1 (v := .func (.func 151) #[] #[]) rfl
                 have HbV := Lib.hid hbV
                 have HgV := Lib.hid hgnV
                 clear hgV hbV hgnV)
    refine (H2.out _ (HG.out.then_non HgV.out)).mono ?_
    rintro e v ⟨rfl, hg⟩
    have hv0 := blk_keep HbV.out hg (fun e => e)
    have m0 := blk_cell hv0 0 (v := .int .i64 80) rfl
    have HGv := Lib.hid ((HG.out.then_non HgV.out).then_non hg)
    have hgn := HgV.out.then_non hg
    have HBv := Lib.hid (blk_keep HB.out hgn (fun e => e))
    have HOv := Lib.hid (HO.out.non hgn (fun _ _ h => h))
    clear hg hv0 hgn b0 b1 b2
    cases q2 with
    | false =>
     have HO2 : Hid (OwnL errV w.heap.size 40 1 v u3 (errsTo c 3)) := Lib.hid (by rw [HS.out]; exact HOv.out)
     go_wp2_with fail
     exact ⟨⟨3, by omega, by simp, HO2, HBv, HX, HGv⟩, by simp [intOf]⟩
    | true =>
     go_wp2_with (refine sel (some 18) (.call _) ?_; refine Vm_stop ?_)
     refine HoleV.mk ?_
     refine wpList_snocL errV rfl (.tmp 14) (.tmp 17) 190 rfl w.heap.size 40 (.int .i64 0) 1 8 Tryz.underlying190 info_err rfl (by omega) u3 (errsTo c 2) rfl (HOv.out.non ((Chg.refl Non v).alloc _) (fun _ _ h => h)) v.heap.size 80 #[.int .i64 80] 40 rfl (blk_new _ _) rfl (by simp [Value.oneCell']) (by have := errsTo_len c 2; omega) (by omega) (by have := HGv.out.size; simp; omega) (fun _ _ _ _ h => h) rfl ?_
     intro v2 w2 ho hg hv
     have hne : ¬ (u3.ownBlock = some w.heap.size) := fun e => by have := HX.out _ e; omega
     have HO2 : Hid (OwnL errV w.heap.size 40 1 w2 v2 (errsTo c 3)) := Lib.hid (by rw [HS.out, if_pos (by trivial)]; exact ho)
     have HG2 : Hid (Chg Non w w2) := Lib.hid ((HGv.out.alloc _).then_new hg (fun x e => (HOv.out.ge e).1))
     have HB2 := Lib.hid (blk_keep (blk_keep HBv.out ((Chg.refl Non v).alloc _) (fun e => e)) hg hne)
     have HX2 : Hid (∀ g, v2.ownBlock = some g → w.heap.size < g) := Lib.hid (fun g e => by
       rcases hv g e with h | h
       · exact HX.out g h
       · have := blk_lt HBv.out
         simp at h
         omega)
     clear ho hg hv hne
     go_wp2_with fail
     exact ⟨⟨3, by omega, by simp, HO2, HB2, HX2, HG2⟩, by simp [intOf]⟩
   ·have HS := Lib.hid (fun h => errsTo_succ c (k := 3) (e := 121) (q := q3) h)
    have HS := Lib.hid (HS.out (by rw [HW.out]; rfl))
    clear H0 i0 H1 i1 H2 i2 H4 i4
    go_wp2_with (refine sel none (.store 220 (.tmp 5) (.tmp 9)) ?_
                 refine wpList_store_rowA rfl 220 (.tmp 5) (.tmp 9) rfl wr.heap.size #[.int .i64 121, .func (.func 152) #[] #[]] rfl rfl 220 _ (blk_new _ _) (by kernel_rfl) rfl (by simp [Value.oneCell']) ?_
                 intro V hgV hbV
                 have hgnV : Chg Non wr V := ((Chg.refl Non wr).alloc _).then_new hgV (fun x e => by omega)
                 have b0 := blk_cell (blk_keep HB.out hgnV (fun e => e)) 0 (v := .slice A1 c.ws.length c1) rfl
                 have b1 := blk_cell (blk_keep HB.out hgnV (fun e => e)) 1 (v := .slice A2 c.ps.length c2) rfl
                 have b2 := blk_cell (blk_keep HB.out hgnV (fun e => e)) 2 (v := .slice A3 c.cs.length c3) rfl
                 have z1 := blk_cell hbV 1 (v := .func (.func 152) #[] #[]) rfl
                 have HbV := Lib.hid hbV
                 have HgV := Lib.hid hgnV
                 clear hgV hbV hgnV)
    refine (H3.out _ (HG.out.then_non HgV.out)).mono ?_
    rintro e v ⟨rfl, hg⟩
    have hv0 := blk_keep HbV.out hg (fun e => e)
    have m0 := blk_cell hv0 0 (v := .int .i64 121) rfl
    have HGv := Lib.hid ((HG.out.then_non HgV.out).then_non hg)
    have hgn := HgV.out.then_non hg
    have HBv := Lib.hid (blk_keep HB.out hgn (fun e => e))
    have HOv := Lib.hid (HO.out.non hgn (fun _ _ h => h))
    clear hg hv0 hgn b0 b1 b2
    cases q3 with
    | false =>
     have HO2 : Hid (OwnL errV w.heap.size 40 1 v u3 (errsTo c 4)) := Lib.hid (by rw [HS.out]; exact HOv.out)
     go_wp2_with fail
     exact ⟨⟨4, by omega, by simp, HO2, HBv, HX, HGv⟩, by simp [intOf]⟩
    | true =>
     go_wp2_with (refine sel (some 18) (.call _) ?_; refine Vm_stop ?_)
     refine HoleV.mk ?_
     refine wpList_snocL errV rfl (.tmp 14) (.tmp 17) 190 rfl w.heap.size 40 (.int .i64 0) 1 8 Tryz.underlying190 info_err rfl (by omega) u3 (errsTo c 3) rfl (HOv.out.non ((Chg.refl Non v).alloc _) (fun _ _ h => h)) v.heap.size 121 #[.int .i64 121] 40 rfl (blk_new _ _) rfl (by simp [Value.oneCell']) (by have := errsTo_len c 3; omega) (by omega) (by have := HGv.out.size; simp; omega) (fun _ _ _ _ h => h) rfl ?_
     intro v2 w2 ho hg hv
     have hne : ¬ (u3.ownBlock = some w.heap.size) := fun e => by have := HX.out _ e; omega
     have HO2 : Hid (OwnL errV w.heap.size 40 1 w2 v2 (errsTo c 4)) := Lib.hid (by rw [HS.out, if_pos (by trivial)]; exact ho)
     have HG2 : Hid (Chg Non w w2) := Lib.hid ((HGv.out.alloc _).then_new hg (fun x e => (HOv.out.ge e).1))
     have HB2 := Lib.hid (blk_keep (blk_keep HBv.out ((Chg.refl Non v).alloc _) (fun e => e)) hg hne)
     have HX2 : Hid (∀ g, v2.ownBlock = some g → w.heap.size < g) := Lib.hid (fun g e => by
       rcases hv g e with h | h
       · exact HX.out g h
       · have := blk_lt HBv.out
         simp at h
         omega)
     clear ho hg hv hne
     go_wp2_with fail
     exact ⟨⟨4, by omega, by simp, HO2, HB2, HX2, HG2⟩, by simp [intOf]⟩
   ·have HS := Lib.hid (fun h => errsTo_succ c (k := 4) (e := 100) (q := q4) h)
    have HS := Lib.hid (HS.out (by rw [HW.out]; rfl))
    clear H0 i0 H1 i1 H2 i2 H3 i3
    go_wp2_with (refine sel none (.store 220 (.tmp 5) (.tmp 9)) ?_
                 refine wpList_store_rowA rfl 220 (.tmp 5) (.tmp 9) rfl wr.heap.size #[.int .i64 100, .func (.func 153) #[] #[]] rfl rfl 220 _ (blk_new _ _) (by kernel_rfl) rfl (by simp [Value.oneCell']) ?_
                 intro V hgV hbV
                 have hgnV : Chg Non wr V := ((Chg.refl Non wr).alloc _).then_new hgV (fun x e => by omega)
                 have b0 := blk_cell (blk_keep HB.out hgnV (fun e => e)) 0 (v := .slice A1 c.ws.length c1) rfl
                 have b1 := blk_cell (blk_keep HB.out hgnV (fun e => e)) 1 (v := .slice A2 c.ps.length c2) rfl
                 have b2 := blk_cell (blk_keep HB.out hgnV (fun e => e)) 2 (v := .slice A3 c.cs.length c3) rfl
                 have z1 := blk_cell hbV 1 (v := .func (.func 153) #[] #[]) rfl
                 have HbV := Lib.hid hbV
                 have HgV := Lib.hid hgnV
                 clear hgV hbV hgnV)
    refine (H4.out _ (HG.out.then_non HgV.out)).mono ?_
    rintro e v ⟨rfl, hg⟩
    have hv0 := blk_keep HbV.out hg (fun e => e)
    have m0 := blk_cell hv0 0 (v := .int .i64 100) rfl
    have HGv := Lib.hid ((HG.out.then_non HgV.out).then_non hg)
    have hgn := HgV.out.then_non hg
    have HBv := Lib.hid (blk_keep HB.out hgn (fun e => e))
    have HOv := Lib.hid (HO.out.non hgn (fun _ _ h => h))
    clear hg hv0 hgn b0 b1 b2
    cases q4 with
    | false =>
     have HO2 : Hid (OwnL errV w.heap.size 40 1 v u3 (errsTo c 5)) := Lib.hid (by rw [HS.out]; exact HOv.out)
     go_wp2_with fail
     exact ⟨⟨5, by omega, by simp, HO2, HBv, HX, HGv⟩, by simp [intOf]⟩
    | true =>
     go_wp2_with (refine sel (some 18) (.call _) ?_; refine Vm_stop ?_)
     refine HoleV.mk ?_
     refine wpList_snocL errV rfl (.tmp 14) (.tmp 17) 190 rfl w.heap.size 40 (.int .i64 0) 1 8 Tryz.underlying190 info_err rfl (by omega) u3 (errsTo c 4) rfl (HOv.out.non ((Chg.refl Non v).alloc _) (fun _ _ h => h)) v.heap.size 100 #[.int .i64 100] 40 rfl (blk_new _ _) rfl (by simp [Value.oneCell']) (by have := errsTo_len c 4; omega) (by omega) (by have := HGv.out.size; simp; omega) (fun _ _ _ _ h => h) rfl ?_
     intro v2 w2 ho hg hv
     have hne : ¬ (u3.ownBlock = some w.heap.size) := fun e => by have := HX.out _ e; omega
     have HO2 : Hid (OwnL errV w.heap.size 40 1 w2 v2 (errsTo c 5)) := Lib.hid (by rw [HS.out, if_pos (by trivial)]; exact ho)
     have HG2 : Hid (Chg Non w w2) := Lib.hid ((HGv.out.alloc _).then_new hg (fun x e => (HOv.out.ge e).1))
     have HB2 := Lib.hid (blk_keep (blk_keep HBv.out ((Chg.refl Non v).alloc _) (fun e => e)) hg hne)
     have HX2 : Hid (∀ g, v2.ownBlock = some g → w.heap.size < g) := Lib.hid (fun g e => by
       rcases hv g e with h | h
       · exact HX.out g h
       · have := blk_lt HBv.out
         simp at h
         omega)
     clear ho hg hv hne
     go_wp2_with fail
     exact ⟨⟨5, by omega, by simp, HO2, HB2, HX2, HG2⟩, by simp [intOf]⟩
  ·obtain rfl : k = 5 := by omega
   go_wp2_with fail
   go_ret
   exact ⟨_, rfl, HO.out, HG.out⟩
noncomputable def vCheck (c : Cfg) : Int := (errsTo c 5).headD 0
set_option maxRecDepth 100000 in
theorem vCheck_ok (I : Nat → Prop) (w : World) (c : Cfg) (A1 A2 A3 : Option Addr) (c1 c2 c3 : Nat) (h : CfgR I w c A1 A2 A3 c1 c2 c3) (h20 : c.ps.length ≤ 1000) :
  Calls Tryz.prog 64 #[.agg #[.slice A1 c.ws.length c1, .slice A2 c.ps.length c2, .slice A3 c.cs.length c3]] w fun e w' => e = .returned (.int .i64 (vCheck c)) ∧ Chg Non w w' := by
 have HA := Lib.hid (fun W (hg : Chg Non w W) => vAll_ok I W c A1 A2 A3 c1 c2 c3 (h.non hg) h20)
 have HE : Hid (vCheck c = (errsTo c 5).headD 0) := Lib.hid rfl
 clear h
 go_enter Tryz.func64, Tryz.ntmps64
 go_wp2_with fail
 refine (HA.out _ ((Chg.refl Non w).alloc _)).mono ?_
 rintro e u ⟨v, rfl, ho, hg⟩
 obtain ⟨A, cc, rfl, h1, h2, hr⟩ := ho.rd
 have HR := Lib.hid hr
 have HG := Lib.hid (((Chg.refl Non w).alloc _).then_non hg)
 clear ho hr hg h2 HA
 obtain ⟨l, hl⟩ : ∃ l, errsTo c 5 = l := ⟨_, rfl⟩
 rw [hl] at HE HR h1 ⊢
 clear hl
 go_wp2_with fail
 go_loopw [8] (fun iv wr => iv = .int .i64 0 ∧ wr = u) (fun _ _ => 0)
 case atStart => exact ⟨rfl, rfl⟩
 case round =>
  obtain ⟨rfl, rfl⟩ := hrel
  cases l with
  | nil =>
   go_wp2_with fail
   go_ret
   exact ⟨ret_i HE.out.symm, HG.out⟩
  | cons x t =>
   obtain ⟨b, o, vs, rfl, _, hlen, hcell, rfl⟩ := HR.out 0 x rfl
   have k0 : wr.cell? ⟨b, o, none⟩ = some (.int .i64 x) := by have := hcell 0 _ rfl; simpa using this
   clear hcell hlen
   go_wp2_with fail
   go_ret
   exact ⟨ret_i HE.out.symm, HG.out⟩
noncomputable def fitsB (c : Cfg) : Bool := vCheck c == 0
set_option maxRecDepth 100000 in
theorem fits_ok (I : Nat → Prop) (w : World) (c : Cfg) (A1 A2 A3 : Option Addr) (c1 c2 c3 : Nat) (h : CfgR I w c A1 A2 A3 c1 c2 c3) (h20 : c.ps.length ≤ 1000) :
  Calls Tryz.prog 32 #[.agg #[.slice A1 c.ws.length c1, .slice A2 c.ps.length c2, .slice A3 c.cs.length c3]] w fun e w' => e = .returned (.bool (fitsB c)) ∧ Chg Non w w' := by
 have HA := Lib.hid (fun W (hg : Chg Non w W) => vCheck_ok I W c A1 A2 A3 c1 c2 c3 (h.non hg) h20)
 have HE : Hid (fitsB c = (vCheck c == 0)) := Lib.hid rfl
 obtain ⟨e0, he⟩ : ∃ e, vCheck c = e := ⟨_, rfl⟩
 simp only [he] at HA HE
 clear h he
 go_enter Tryz.func32, Tryz.ntmps32
 go_wp2_with fail
 refine (HA.out _ ((Chg.refl Non w).alloc _)).mono ?_
 rintro e u ⟨rfl, hg⟩
 go_wp2_with fail
 go_ret
 exact ⟨ret_b HE.out.symm, ((Chg.refl Non w).alloc _).then_non hg⟩
theorem fits_iff {c : Cfg} : fitsB c = true ↔ windowsBad c = false ∧ partsBad c.ps = false ∧ regionsBad c = false ∧ overlapBad c.ps = false ∧ channelsBad c = false := by
 unfold fitsB vCheck errsTo wrongs
 cases windowsBad c <;> cases partsBad c.ps <;> cases regionsBad c <;> cases overlapBad c.ps <;> cases channelsBad c <;> simp
end
section
open Go.RowKit
def cfgC (c : Cfg) (A1 A2 A3 : Option Addr) (c1 c2 c3 : Nat) : Array Value := #[.slice A1 c.ws.length c1, .slice A2 c.ps.length c2, .slice A3 c.cs.length c3]
structure LdS (w W : World) (c : Cfg) (A1 A2 A3 : Option Addr) (c1 c2 c3 : Nat) (s : List Bool) : Prop where
 box : W.heap[w.heap.size]? = some (.cells (cfgC c A1 A2 A3 c1 c2 c3) 26 (0, 0))
 seen : W.heap[w.heap.size + 1]? = some (.cells (s.map Value.bool).toArray 139 (0, 0))
 chg : Chg Non w W
 len : s.length = 7
section
variable {w W W' : World} {c : Cfg} {A1 A2 A3 : Option Addr} {c1 c2 c3 : Nat} {s : List Bool}
theorem LdS.non (h : LdS w W c A1 A2 A3 c1 c2 c3 s) (hg : Chg Non W W') : LdS w W' c A1 A2 A3 c1 c2 c3 s := ⟨blockN hg h.box, blockN hg h.seen, h.chg.then_non hg, h.len⟩
theorem LdS.cell (h : LdS w W c A1 A2 A3 c1 c2 c3 s) (i : Nat) (hi : i < 7) : W.cell? ⟨w.heap.size + 1, i, none⟩ = some (.bool (s.getD i false)) := by
 refine row_cell h.seen ?_
 have := h.len
 rw [List.getElem?_toArray, List.getElem?_map, List.getElem?_eq_getElem (by omega), List.getD_eq_getElem?_getD, List.getElem?_eq_getElem (by omega)]
 rfl
theorem LdS.set (h : LdS w W c A1 A2 A3 c1 c2 c3 s) (i : Nat) (hi : i < 7) : LdS w (W.setCell ⟨w.heap.size + 1, i, none⟩ (.bool true)) c A1 A2 A3 c1 c2 c3 (s.set i true) := by
 have hg := setAt W (w.heap.size + 1) i (.bool true)
 refine ⟨blockS h.box hg (by omega), ?_, h.chg.then_new hg (fun x e => by omega), by simpa using h.len⟩
 have := heap_setCellI (.bool true) (i := i) h.seen
 rw [List.setIfInBounds_toArray] at this
 rw [List.map_set]
 exact this
theorem LdS.frozen (h : LdS w W c A1 A2 A3 c1 c2 c3 s) (i : Nat) : W.frozen? ⟨w.heap.size + 1, i, none⟩ = false := by
 simp only [World.frozen?]
 rw [h.seen]
 simp
theorem LdS.lt (h : LdS w W c A1 A2 A3 c1 c2 c3 s) : w.heap.size + 1 < W.heap.size := (Array.getElem?_eq_some_iff.1 h.seen).1
end
theorem relax_snoc {cs : List Ch} {s : List Bool} {j : Nat} {x : Ch} (h : cs[j]? = some x) : relax (cs.take (j + 1)) s = relax1 (relax (cs.take j) s) x := by
 obtain ⟨hj, rfl⟩ := List.getElem?_eq_some_iff.1 h
 rw [List.take_succ_eq_append_getElem hj, relax, relax, List.foldl_append]
 rfl
set_option maxRecDepth 100000 in
theorem leads_ok (I : Nat → Prop) (w : World) (c : Cfg) (A1 A2 A3 : Option Addr) (c1 c2 c3 : Nat) (h : CfgR I w c A1 A2 A3 c1 c2 c3) (hcl : c.cs.length ≤ 1000) (src dst : Int) :
  Calls Tryz.prog 34 #[.agg (cfgC c A1 A2 A3 c1 c2 c3), .int .i64 src, .int .i64 dst] w fun e w' => e = .returned (.bool (leadsV c.cs src dst)) ∧ Chg Non w w' := by
 by_cases hno : src < 0 ∨ 6 < src ∨ dst < 0 ∨ 6 < dst
 ·have HE : Hid (leadsV c.cs src dst = false) := Lib.hid (by simp [leadsV]; omega)
  clear h
  by_cases h1 : src < 0
  ·go_enter Tryz.func34, Tryz.ntmps34
   go_wp2_with fail
   all_goals go_ret
   all_goals exact ⟨ret_b HE.out.symm, ((Chg.refl Non w).alloc _).alloc _⟩
  by_cases h2 : 6 < src
  ·go_enter Tryz.func34, Tryz.ntmps34
   go_wp2_with fail
   all_goals go_ret
   all_goals exact ⟨ret_b HE.out.symm, ((Chg.refl Non w).alloc _).alloc _⟩
  by_cases h3 : dst < 0
  ·go_enter Tryz.func34, Tryz.ntmps34
   go_wp2_with fail
   all_goals go_ret
   all_goals exact ⟨ret_b HE.out.symm, ((Chg.refl Non w).alloc _).alloc _⟩
  have h4 : 6 < dst := by omega
  go_enter Tryz.func34, Tryz.ntmps34
  go_wp2_with fail
  all_goals go_ret
  all_goals exact ⟨ret_b HE.out.symm, ((Chg.refl Non w).alloc _).alloc _⟩
 obtain ⟨a, rfl⟩ : ∃ a : Nat, src = a := ⟨src.toNat, by omega⟩
 obtain ⟨d, rfl⟩ : ∃ d : Nat, dst = d := ⟨dst.toNat, by omega⟩
 have ha : a < 7 := by omega
 have hd : d < 7 := by omega
 have ha1 : decide ((a : Int) < 0) = false := by rw [decide_eq_false_iff_not]; omega
 have ha2 : decide ((6 : Int) < (a : Int)) = false := by rw [decide_eq_false_iff_not]; omega
 have hd1 : decide ((d : Int) < 0) = false := by rw [decide_eq_false_iff_not]; omega
 have hd2 : decide ((6 : Int) < (d : Int)) = false := by rw [decide_eq_false_iff_not]; omega
 have HE : Hid (leadsV c.cs a d = (rounds 6 c.cs (seen0 a)).getD d false) := Lib.hid (by
   unfold leadsV
   rw [decide_eq_true (by omega), decide_eq_true (by omega), decide_eq_true (by omega), decide_eq_true (by omega), Int.toNat_natCast]
   simp)
 have HC := Lib.hid h
 clear h hno
 have hai : (a : Int) < 7 := by omega
 have hdi : (d : Int) < 7 := by omega
 have HS0 : Hid (LdS w ((w.alloc (.cells (cfgC c A1 A2 A3 c1 c2 c3) 26)).alloc (.cells ([Value.bool false, .bool false, .bool false, .bool false, .bool false, .bool false, .bool false].set a (.bool true)).toArray 139)) c A1 A2 A3 c1 c2 c3 (seen0 a)) :=
  Lib.hid ⟨al_2_0 w _ _, (al_2_1 w _ _).trans (by rw [seen0, Int.toNat_natCast, List.map_set]; rfl), ((Chg.refl Non w).alloc _).alloc _, by simp [seen0]⟩
 go_enter Tryz.func34, Tryz.ntmps34
 go_wp2_with fail
 clear ha1 ha2 hd1 hd2
 go_loopw [8] (fun iv wr => ∃ k : Nat, k ≤ 6 ∧ iv = .int .i64 k ∧ Hid (LdS w wr c A1 A2 A3 c1 c2 c3 (rounds k c.cs (seen0 a)))) (fun iv _ => 6 - (intOf iv).toNat)
 case atStart => exact ⟨0, by omega, rfl, HS0⟩
 case round =>
  obtain ⟨k, hk, rfl, HS⟩ := hrel
  rename_i w1
  by_cases hlt : k < 6
  ·have hltd : decide ((k : Int) < 6) = true := by rw [decide_eq_true_eq]; omega
   obtain ⟨s, hs⟩ : ∃ s, rounds k c.cs (seen0 a) = s := ⟨_, rfl⟩
   have HRd : Hid (rounds (k + 1) c.cs (seen0 a) = relax c.cs s) := Lib.hid (by rw [rounds, hs])
   rw [hs] at HS
   clear hs
   go_wp2_with fail
   go_loopw [9] (fun iv wr => ∃ j : Nat, j ≤ c.cs.length ∧ iv = .int .i64 j ∧ Hid (LdS w wr c A1 A2 A3 c1 c2 c3 (relax (c.cs.take j) s))) (fun iv _ => c.cs.length - (intOf iv).toNat)
   case atStart => exact ⟨0, by omega, rfl, HS⟩
   case round =>
    obtain ⟨j, hj, rfl, HT⟩ := hrel
    have hcb := row_cell HT.out.box (i := 2) (v := .slice A3 c.cs.length c3) rfl
    have hl := HT.out.lt
    have hl0 : w.heap.size < wr.heap.size := by omega
    by_cases hjl : j < c.cs.length
    ·have hjd : decide ((j : Int) < (c.cs.length : Int)) = true := by simpa using hjl
     obtain ⟨x, hx⟩ : ∃ x, c.cs[j]? = some x := ⟨_, List.getElem?_eq_getElem hjl⟩
     obtain ⟨b, o, rfl, k0, k1, k2, k3, k4, hbd, hbl⟩ := ch_at HC.out.cs HT.out.chg hx
     have hbne : b < w.heap.size := by
      obtain ⟨b', o', vs, e, _, hl, hc, _⟩ := HC.out.cs j x hx
      injection e with e
      injection e with e1 e2 _
      subst e1
      have h0 := hc 0 _ (List.getElem?_eq_getElem (l := vs) (by omega))
      exact lt_of_cell h0
     have HRs := Lib.hid (relax_snoc (s := s) hx)
     obtain ⟨t, ht⟩ : ∃ t, relax (c.cs.take j) s = t := ⟨_, rfl⟩
     rw [ht] at HT HRs
     clear ht hx
     obtain ⟨xi, xs, xd, xc, xz⟩ := x
     simp only at k0 k1 k2 k3 k4
     have HTa := Lib.hid (HT.out.non ((Chg.refl Non wr).alloc (.cells #[.int .i64 xi, .int .i64 xs, .int .i64 xd, .int .i64 xc, .int .i64 xz] 93)))
     by_cases hed : (Ch.edge ⟨xi, xs, xd, xc, xz⟩) = true
     ·simp only [Ch.edge, Bool.and_eq_true, decide_eq_true_eq] at hed
      obtain ⟨⟨⟨e1, e2⟩, e3⟩, e4⟩ := hed
      obtain ⟨p, rfl⟩ : ∃ p : Nat, xs = p := ⟨xs.toNat, by omega⟩
      obtain ⟨q, rfl⟩ : ∃ q : Nat, xd = q := ⟨xd.toNat, by omega⟩
      have d1 : decide ((0 : Int) ≤ (p : Int)) = true := by rw [decide_eq_true_eq]; omega
      have d2 : decide ((p : Int) ≤ 6) = true := by rw [decide_eq_true_eq]; omega
      have d3 : decide ((0 : Int) ≤ (q : Int)) = true := by rw [decide_eq_true_eq]; omega
      have d4 : decide ((q : Int) ≤ 6) = true := by rw [decide_eq_true_eq]; omega
      have hp7 : p < 7 := by omega
      have hq7 : q < 7 := by omega
      have hpi : (p : Int) < 7 := by omega
      have hqi : (q : Int) < 7 := by omega
      have hcp := HT.out.cell p hp7
      have hcq := HT.out.cell q hq7
      have hfq := HT.out.frozen q
      have hedge : (Ch.edge ⟨xi, p, q, xc, xz⟩) = true := by simp [Ch.edge]; omega
      obtain ⟨bv, hbv⟩ : ∃ bv, t.getD p false = bv := ⟨_, rfl⟩
      have hR1 : relax1 t ⟨xi, p, q, xc, xz⟩ = if bv = true then t.set q true else t := by rw [← hbv]; simp [relax1, hedge]
      rw [hbv] at hcp
      clear hbv hedge e1 e2 e3 e4
      cases bv with
      | true =>
       have HR1 := Lib.hid (hR1.trans (if_pos rfl))
       clear hR1
       have HTb := Lib.hid ((HT.out.set q hq7).non ((Chg.refl Non _).alloc (.cells #[.int .i64 xi, .int .i64 p, .int .i64 q, .int .i64 xc, .int .i64 xz] 93)))
       go_wp2_with fail
       exact ⟨⟨j + 1, by omega, by simp, by rw [HRs.out, HR1.out]; exact HTb⟩, by simp [intOf]; omega⟩
      | false =>
       have HR1 := Lib.hid (hR1.trans (if_neg (by decide)))
       clear hR1
       go_wp2_with fail
       exact ⟨⟨j + 1, by omega, by simp, by rw [HRs.out, HR1.out]; exact HTa⟩, by simp [intOf]; omega⟩
     ·have HR1 : Hid (relax1 t ⟨xi, xs, xd, xc, xz⟩ = t) := Lib.hid (by simp [relax1, hed])
      have hno : xs < 0 ∨ 6 < xs ∨ xd < 0 ∨ 6 < xd := by
       simp only [Ch.edge, Bool.and_eq_true, decide_eq_true_eq] at hed
       omega
      clear hed
      by_cases d1 : xs < 0
      ·go_wp2_with fail
       all_goals exact ⟨⟨j + 1, by omega, by simp, by rw [HRs.out, HR1.out]; exact HTa⟩, by simp [intOf]; omega⟩
      by_cases d2 : 6 < xs
      ·go_wp2_with fail
       all_goals exact ⟨⟨j + 1, by omega, by simp, by rw [HRs.out, HR1.out]; exact HTa⟩, by simp [intOf]; omega⟩
      by_cases d3 : xd < 0
      ·go_wp2_with fail
       all_goals exact ⟨⟨j + 1, by omega, by simp, by rw [HRs.out, HR1.out]; exact HTa⟩, by simp [intOf]; omega⟩
      have d4 : 6 < xd := by omega
      go_wp2_with fail
      all_goals exact ⟨⟨j + 1, by omega, by simp, by rw [HRs.out, HR1.out]; exact HTa⟩, by simp [intOf]; omega⟩
    ·have hjd : decide ((j : Int) < (c.cs.length : Int)) = false := by simpa using hjl
     go_wp2_with fail
     have e : j = c.cs.length := by omega
     subst e
     rw [List.take_length] at HT
     exact ⟨⟨k + 1, by omega, by simp, by rw [HRd.out]; exact HT⟩, by simp [intOf]; omega⟩
  ·have hltd : decide ((k : Int) < 6) = false := by rw [decide_eq_false_iff_not]; omega
   obtain rfl : k = 6 := by omega
   have hc := HS.out.cell d hd
   have hl := HS.out.lt
   go_wp2_with fail
   go_ret
   exact ⟨ret_b HE.out.symm, HS.out.chg⟩
end
section
open Go.RowKit
structure Ak where
 what : Nat
 part : Int
 pl : Int
 by_ : List UInt8
def actV (I : Nat → Prop) : World → Ak → List Value → Prop := fun w a vs => ∃ m, vs = [.int .u8 a.what, .int .i64 a.part, .int .i64 a.pl, m] ∧ BytesV I w a.by_ m ∧ a.what < 256 ∧ I64 a.part ∧ I64 a.pl
theorem actV_non {I : Nat → Prop} : ∀ W W' a vs, Chg Non W W' → actV I W a vs → actV I W' a vs := fun _ _ _ _ hg ⟨m, h1, h2, h3⟩ => ⟨m, h1, h2.keep hg (fun _ _ e => e), h3⟩
theorem act_at {I : Nat → Prop} {w w' : World} {A : Option Addr} {l : List Ak} (hr : RdL (actV I) I 4 w A l) (hg : Chg Non w w') {k : Nat} {a : Ak} (hk : l[k]? = some a) :
  ∃ b o m, A = some ⟨b, o, none⟩ ∧ w'.cell? ⟨b, o + k * 4, none⟩ = some (.int .u8 a.what) ∧ w'.cell? ⟨b, o + k * 4 + 1, none⟩ = some (.int .i64 a.part) ∧ w'.cell? ⟨b, o + k * 4 + 2, none⟩ = some (.int .i64 a.pl) ∧ w'.cell? ⟨b, o + k * 4 + 3, none⟩ = some m ∧
   BytesV I w' a.by_ m ∧ a.what < 256 ∧ I64 a.part ∧ I64 a.pl ∧ b < w'.heap.size ∧ I b := by
 obtain ⟨b, o, vs, rfl, hI, hl, hc, m, rfl, hb, h1, h2, h3⟩ := hr k a hk
 have h0 := hg.cell_some (hc 0 (.int .u8 a.what) rfl) (fun e => e)
 exact ⟨b, o, m, rfl, h0, hg.cell_some (hc 1 _ rfl) (fun e => e), hg.cell_some (hc 2 _ rfl) (fun e => e), hg.cell_some (hc 3 _ rfl) (fun e => e), hb.keep hg (fun _ _ e => e), h1, h2, h3, lt_of_cell h0, hI⟩
set_option maxRecDepth 100000 in
theorem great23_ok (I : Nat → Prop) (w : World) (B : Option Addr) (l : List Ak) (c : Nat) (hr : RdL (actV I) I 4 w B l) (hc : l.length ≤ c) (hm : c ≤ maxLen) :
  Calls Tryz.prog 10 #[.slice B l.length c] w fun e w' => ∃ r : Bool, e = .returned (.bool r) ∧ (r = false → l.length ≤ 60 ∧ ∀ x ∈ l, x.by_.length ≤ 600) ∧ Chg Non w w' := by
 have HR := Lib.hid hr
 clear hr
 by_cases h1 : 60 < l.length
 ·have d1 : decide ((60 : Int) < (l.length : Int)) = true := by rw [decide_eq_true_eq]; omega
  go_enter Tryz.func10, Tryz.ntmps10
  go_wp2_with fail
  all_goals go_ret
  all_goals exact ⟨true, rfl, (fun e => absurd e (by simp)), Chg.refl _ _⟩
 have d1 : decide ((60 : Int) < (l.length : Int)) = false := by rw [decide_eq_false_iff_not]; omega
 have hL : l.length ≤ 60 := by omega
 clear h1
 go_enter Tryz.func10, Tryz.ntmps10
 go_wp2_with fail
 clear d1
 go_loopw [4, 3] (fun iv sv wr => ∃ (k : Nat) (x : Int), k ≤ l.length ∧ iv = .int .i64 k ∧ sv = .int .i64 x ∧ Hid (∀ i a, i < k → l[i]? = some a → a.by_.length ≤ 600) ∧ Hid (Chg Non w wr)) (fun iv _ _ => l.length - (intOf iv).toNat)
 case atStart => exact ⟨0, 0, Nat.zero_le _, rfl, rfl, Lib.hid (fun i b h => by omega), Lib.hid (Chg.refl _ _)⟩
 case round =>
  obtain ⟨k, x, hk, rfl, rfl, HN, HG⟩ := hrel
  by_cases hlt : k < l.length
  ·have hltd : decide ((k : Int) < (l.length : Int)) = true := by simpa using hlt
   obtain ⟨a, ha⟩ : ∃ a, l[k]? = some a := ⟨_, List.getElem?_eq_getElem hlt⟩
   obtain ⟨b, o, m, rfl, k0, k1, k2, k3, hbv, hw, _, hp, hbl, _⟩ := act_at HR.out HG.out ha
   obtain ⟨Am, cm, rfl, _⟩ := hbv
   have HA := Lib.hid ha
   clear k1 ha
   by_cases h6 : 600 < a.by_.length
   ·have d6 : decide ((600 : Int) < (a.by_.length : Int)) = true := by rw [decide_eq_true_eq]; omega
    go_wp2_with fail
    all_goals go_ret
    all_goals exact ⟨true, rfl, (fun e => absurd e (by simp)), HG.out⟩
   have d6 : decide ((600 : Int) < (a.by_.length : Int)) = false := by rw [decide_eq_false_iff_not]; omega
   have HN2 : Hid (∀ i b, i < k + 1 → l[i]? = some b → b.by_.length ≤ 600) := Lib.hid (fun i b hi hb => by
     by_cases e : i = k
     · subst e
       rw [HA.out] at hb
       injection hb with hb
       subst hb
       omega
     · exact HN.out i b (by omega) hb)
   clear h6
   go_wp2_with fail
   all_goals exact ⟨⟨k + 1, _, by omega, by simp, rfl, HN2, HG⟩, by simp [intOf]; omega⟩
  ·have hltd : decide ((k : Int) < (l.length : Int)) = false := by simpa using hlt
   go_wp2_with fail
   go_ret
   exact ⟨_, rfl, fun _ => ⟨hL, fun x hx => by
     obtain ⟨i, hi, rfl⟩ := List.mem_iff_getElem.1 hx
     exact HN.out i _ (by omega) (List.getElem?_eq_getElem hi)⟩, HG.out⟩
end
end Go.Proofs.YtmnaleaghfbclaaGreatDoor
