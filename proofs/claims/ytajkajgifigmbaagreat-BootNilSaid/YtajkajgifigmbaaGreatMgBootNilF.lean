/- BootNil, part 6 of 14: contracts of the functions that it reaches, and the laws that they need, merged and shortened (from my texts XOwnL, XValE, XValF, XClone, XFill, XFresh, XMay, XVmL, XSMay, XEqA, XEqf, XTag, XRdL, XStQ). -/
import Derived.Test.YtajkajgifigmbaaGreatMgBootNilA
import Derived.Test.YtajkajgifigmbaaGreatMgBootNilB
import Derived.Test.YtajkajgifigmbaaGreatMgBootNilC
import Derived.Test.YtajkajgifigmbaaGreatMgBootNilD
import Derived.Test.YtajkajgifigmbaaGreatMgBootNilE
import Derived.Deep.AppendLies
import Derived.Maps.AppendAt
import Derived.Laws.CopyOwn
import Derived.DeepKeys
import Derived.ChangeSlices
import Derived.Laws.StructEq
import Derived.OpenShut
namespace Go.Proofs.YtajkajgifigmbaaGreat
set_option linter.unusedVariables false
set_option linter.unusedSimpArgs false
set_option maxHeartbeats 8000000
set_option maxRecDepth 100000
section
open Go.RowKit
theorem addr_none (b o k : Nat) : (⟨b, o, none⟩ : Addr).add k = ⟨b, o + k, none⟩ := by
 unfold Addr.add
 split <;> simp_all
theorem flat_get {α : Type} {xss : List (List α)} {sz : Nat} (h : ∀ x ∈ xss, x.length = sz) {i j : Nat} {x : List α} {a : α} (hi : xss[i]? = some x) (hj : x[j]? = some a) : xss.flatten[i * sz + j]? = some a := by
 induction xss generalizing i with
 | nil => simp at hi
 | cons y t ih =>
  have hy := h y (List.mem_cons_self ..)
  cases i with
  | zero =>
   simp only [List.getElem?_cons_zero, Option.some.injEq] at hi
   subst hi
   rw [List.flatten_cons, Nat.zero_mul, Nat.zero_add, List.getElem?_append_left (List.getElem?_eq_some_iff.1 hj).1]
   exact hj
  | succ i =>
   rw [List.getElem?_cons_succ] at hi
   rw [List.flatten_cons, List.getElem?_append_right (by rw [hy, Nat.succ_mul]; omega), hy, show (i + 1) * sz + j - sz = i * sz + j by rw [Nat.succ_mul]; omega]
   exact ih (fun x hx => h x (List.mem_cons_of_mem _ hx)) hi
def OwnL {α : Type} (R : World → α → List Value → Prop) (B : Nat) (e : TypeId) (sz : Nat) (w : World) (v : Value) (l : List α) : Prop :=
 ∃ xss : List (List Value), w.ownsRow B e sz v l.length xss.flatten ∧ xss.length = l.length ∧ (∀ x ∈ xss, x.length = sz) ∧ ∀ (i : Nat) (a : α) (x : List Value), l[i]? = some a → xss[i]? = some x → R w a x
namespace OwnL
variable {α : Type} {R : World → α → List Value → Prop} {B : Nat} {e : TypeId} {sz : Nat} {w w' : World} {v : Value} {l : List α}
theorem nil (R : World → α → List Value → Prop) (B : Nat) (e : TypeId) (sz : Nat) (w : World) : OwnL R B e sz w (.slice none 0 0) [] := ⟨[], World.ownsRow_nil _ _ _ _, rfl, (fun x h => by cases h), (fun i a x h => by simp at h)⟩
theorem keep {S : Nat → Prop} (h : OwnL R B e sz w v l) (hg : Chg S w w') (hn : ∀ g, v.ownBlock = some g → ¬ S g) (hR : ∀ a vs, R w a vs → R w' a vs) : OwnL R B e sz w' v l := by
 obtain ⟨xss, ⟨h1, h2⟩, h3, h4, h5⟩ := h
 refine ⟨xss, ⟨h1, ?_⟩, h3, h4, fun i a x ha hx => hR _ _ (h5 i a x ha hx)⟩
 rcases h2 with h0 | ⟨g, cap, cur, rfl, hB, hb, r1⟩
 ·exact .inl h0
 ·exact .inr ⟨g, cap, cur, rfl, hB, (hg.block g (Array.getElem?_eq_some_iff.1 hb).1 (hn g rfl)).trans hb, r1⟩
theorem non (h : OwnL R B e sz w v l) (hg : Chg Non w w') (hR : ∀ a vs, R w a vs → R w' a vs) : OwnL R B e sz w' v l := h.keep hg (fun _ _ e => e) hR
theorem ge (h : OwnL R B e sz w v l) {g : Nat} (hg : v.ownBlock = some g) : B ≤ g ∧ g < w.heap.size := by
 obtain ⟨xss, ⟨h1, h2⟩, _⟩ := h
 rcases h2 with ⟨rfl, _⟩ | ⟨g2, cap, cur, rfl, hB, hb, _⟩
 ·simp [Value.ownBlock] at hg
 ·obtain rfl : g2 = g := by simpa [Value.ownBlock] using hg
  exact ⟨hB, blk_lt hb⟩
theorem rd (h : OwnL R B e sz w v l) : ∃ A c, v = .slice A l.length c ∧ l.length ≤ c ∧ c ≤ maxLen ∧ RdL R (fun b => v.ownBlock = some b) sz w A l := by
 obtain ⟨xss, hown, h3, h4, h5⟩ := h
 rcases hown.2 with ⟨rfl, h0⟩ | ⟨g, cap, cur, rfl, hB, hb, r1, r2, r3, r4⟩
 ·have : l = [] := List.eq_nil_of_length_eq_zero h0
  subst this
  exact ⟨none, 0, rfl, Nat.le_refl _, by simp, RdL.nil _ _ _ _ _⟩
 ·refine ⟨_, cap, rfl, r1, r2, fun i a ha => ?_⟩
  have hil := (List.getElem?_eq_some_iff.1 ha).1
  obtain ⟨x, hx⟩ : ∃ x, xss[i]? = some x := ⟨_, List.getElem?_eq_getElem (by omega)⟩
  refine ⟨g, 0, x, rfl, rfl, h4 x (List.mem_of_getElem? hx), fun j v hv => ?_, h5 i a x ha hx⟩
  have hf := flat_get h4 hx hv
  rw [cell_of_row _ _ _ _ _ _ hb, Nat.zero_add]
  rw [← r4] at hf
  have hlt : i * sz + j < l.length * sz := by
   have := (List.getElem?_eq_some_iff.1 hf).1
   rw [List.length_take] at this
   omega
  rw [List.getElem?_take_of_lt hlt, Array.getElem?_toList] at hf
  exact hf
end OwnL
theorem wpList_snocL {P : Program} {α : Type} (R : World → α → List Value → Prop) {ops : Array Oper} {rest : List Oper} {o : Oper} {a : Act} {w : World} {Q : Exit → Act → World → Prop} (hgd : o.guard = none) (s x : Operand) (t : TypeId)
  (ho : o.op = .call { callee := .builtin .append, args := #[s, x], argTypes := #[t, t] }) (B : Nat) (e : TypeId) (z : Value) (sz bytes : Nat) (ht : P.underlying t = some (.slice e)) (hi : (P.info? e).map (fun i => (i.zero, i.size, i.bytes)) = some (some z, sz, bytes))
  (hzs : z.cells.size = sz) (hsz : 0 < sz) (v : Value) (l : List α) (hs : a.eval s = v) (hown : OwnL R B e sz w v l) (b : Nat) (k : α) (cs : Array Value) (tb : TypeId) (hx : a.eval x = .slice (some ⟨b, 0, none⟩) 1 1) (hb : w.heap[b]? = some (.cells cs tb (0, 0))) (hcs : cs.size = sz) (h1 : cs.all (·.oneCell') = true)
  (hl : l.length ≤ 1000000) (hby : bytes ≤ 100000) (hB : B ≤ w.heap.size) (hR : ∀ w' a vs, Chg (fun k => v.ownBlock = some k) w w' → R w a vs → R w' a vs) (ha : R w k cs.toList)
  (h : ∀ v2 w2, OwnL R B e sz w2 v2 (l ++ [k]) → Chg (fun k => v.ownBlock = some k) w w2 → (∀ g, v2.ownBlock = some g → v.ownBlock = some g ∨ g = w.heap.size) → wpList P ops Q rest (a.put o.dst v2) w2) : wpList P ops Q (o :: rest) a w := by
 obtain ⟨i0, hi0, hz0, hs0, hb0⟩ := info_parts hi
 have hown' := hown
 obtain ⟨xss, hro, h3, h4, h5⟩ := hown
 refine wpList_append_lies w hgd s x t ho B e i0 z sz bytes ht hi0 hz0 hs0 hb0 hzs hsz v l.length xss.flatten hs hro ⟨b, 0, none⟩ 1 1 cs.toList hx (by simp [hcs]) ?_ ?_ (by omega) (by unfold maxLen; omega) (Nat.le_trans (Nat.mul_le_mul (show l.length + 1 ≤ 1000001 by omega) hby) (by omega)) hB _ rfl ?_
 ·intro j u hu
  rw [addr_none, Nat.zero_add, cell_of_row _ _ _ _ _ _ hb]
  simpa using hu
 ·intro u hu
  have := Array.all_eq_true.1 h1
  obtain ⟨i, hi⟩ := List.getElem?_of_mem hu
  rw [Array.getElem?_toList] at hi
  obtain ⟨hlt, e⟩ := Array.getElem?_eq_some_iff.1 hi
  have := this i hlt
  rw [e] at this
  exact this
 ·intro g cap w2 h2 hgrow hat hlt
  have hg : Chg (fun k => v.ownBlock = some k) w w2 := (Chg.refl (fun k => v.ownBlock = some k) w).grown hgrow fun g' hg' => .inl hg'
  refine h _ _ ?_ hg (fun g' e => by
    have : g = g' := by simpa [Value.ownBlock] using e
    subst this
    exact hat)
  refine ⟨xss ++ [cs.toList], ?_, by simp [h3], ?_, ?_⟩
  ·rw [List.length_append, List.flatten_append]
   simpa using h2
  ·intro x hx
   rcases List.mem_append.1 hx with hx | hx
   ·exact h4 x hx
   ·obtain rfl := List.mem_singleton.1 hx
    rw [Array.length_toList, hcs]
  ·intro i c x hc hx
   by_cases hil : i < l.length
   ·rw [List.getElem?_append_left hil] at hc
    rw [List.getElem?_append_left (by omega)] at hx
    exact hR _ _ _ hg (h5 i c x hc hx)
   ·have hil2 : i < (l ++ [k]).length := (List.getElem?_eq_some_iff.1 hc).1
    obtain rfl : i = l.length := by simp at hil2; omega
    rw [List.getElem?_append_right (Nat.le_refl _), Nat.sub_self] at hc
    rw [List.getElem?_append_right (by omega), h3, Nat.sub_self] at hx
    simp only [List.getElem?_cons_zero, Option.some.injEq] at hc hx
    subst hc hx
    exact hR _ _ _ hg ha
end
section
open Go.RowKit
theorem info_reg : (Tryz.prog.info? 111).map (fun i => (i.zero, i.size, i.bytes)) = some (some (.agg #[.int .i64 0, .int .i64 0]), 2, 16) := by kernel_rfl
def mayRegs (ps : List Pn) : List Rg := (ps.map fun p => (⟨p.base, p.size⟩ : Rg)).filter Rg.may
theorem mayRegs_snoc {ps : List Pn} {k : Nat} {a : Pn} (h : ps[k]? = some a) : mayRegs (ps.take (k + 1)) = if regMay a.base a.size = true then mayRegs (ps.take k) ++ [⟨a.base, a.size⟩] else mayRegs (ps.take k) := by
 obtain ⟨hk, rfl⟩ := List.getElem?_eq_some_iff.1 h
 rw [List.take_succ_eq_append_getElem hk]
 unfold mayRegs
 rw [List.map_append, List.filter_append]
 show _ ++ List.filter Rg.may [⟨ps[k].base, ps[k].size⟩] = _
 by_cases hm : regMay ps[k].base ps[k].size = true
 ·rw [if_pos hm, List.filter_cons_of_pos (show Rg.may ⟨ps[k].base, ps[k].size⟩ = true from hm)]
  rfl
 ·rw [if_neg hm, List.filter_cons_of_neg (show ¬ Rg.may ⟨ps[k].base, ps[k].size⟩ = true from hm)]
  simp
theorem mayRegs_len (ps : List Pn) : (mayRegs ps).length ≤ ps.length := by
 unfold mayRegs
 exact Nat.le_trans (List.length_filter_le _ _) (by simp)
noncomputable def overlapBad (ps : List Pn) : Bool := decide (regAll (mayRegs ps) ≠ 0)
theorem overlap_ok (I : Nat → Prop) (w : World) (va vd : Value) (A : Option Addr) (ps : List Pn) (c : Nat) (hr : RdL (pnV I) I 5 w A ps) (hc : ps.length ≤ c) (hm : c ≤ maxLen) (h6 : ps.length ≤ 1000) (o1 : va.oneCell' = true) (o2 : vd.oneCell' = true) :
  Calls Tryz.prog 327 #[.agg #[va, .slice A ps.length c, vd]] w fun e w' => e = .returned (.bool (overlapBad ps)) ∧ Chg Non w w' := by
 unfold maxLen at hm
 have HR := Lh hr
 have HE : Hid (overlapBad ps = decide (regAll (mayRegs ps) ≠ 0)) := Lh rfl
 clear hr
 go_enter Tryz.func327, Tryz.ntmps327
 go_wp2_with fail
 go_loopw [9, 3] (fun iv lv wr => ∃ k : Nat, k ≤ ps.length ∧ iv = .int .i64 k ∧ Hid (OwnL rgV w.heap.size 111 2 wr lv (mayRegs (ps.take k))) ∧ Hid (Chg Non w wr)) (fun iv _ _ => ps.length - (intOf iv).toNat)
 case atStart => exact ⟨0, Nat.zero_le _, rfl, Lh (OwnL.nil _ _ _ _ _), Lh ((Chg.refl _ _).alloc _)⟩
 case round =>
  obtain ⟨k, hk, rfl, HO, HG⟩ := hrel
  by_cases hlt : k < ps.length
  ·obtain ⟨a, ha⟩ : ∃ a, ps[k]? = some a := ⟨_, List.getElem?_eq_getElem hlt⟩
   obtain ⟨b, o, m, rfl, k0, k1, k2, k3, k4, ⟨A2, c2, rfl, _⟩, _, _, _, _, hbl⟩ := pn_at HR.out HG.out ha
   have hltd : decide ((k : Int) < (ps.length : Int)) = true := by simpa using hlt
   have HS := Lh (mayRegs_snoc ha)
   have HM := Lh (fun W => regMay_ok a.base a.size W)
   obtain ⟨q, hq⟩ : ∃ q, regMay a.base a.size = q := ⟨_, rfl⟩
   rw [hq] at HM HS
   clear ha hq
   obtain ⟨x, y, z, kp, im⟩ := a
   simp only at k0 k1 k2 k3 k4 HM HS
   go_wp2_with fail
   refine (HM.out _).mono ?_
   rintro e u ⟨rfl, hg⟩
   have hb := blk_call hg
   have HGu := Lh ((HG.out.alloc _).then_non hg)
   have HOu := Lh ((HO.out.non ((Chg.refl Non wr).alloc _) (fun _ _ h => h)).non hg (fun _ _ h => h))
   have m1 := blk_cell hb 1 (v := .int .i64 y) rfl
   have m2 := blk_cell hb 2 (v := .int .i64 z) rfl
   clear hb hg HO
   cases q with
   | false =>
    have HO2 : Hid (OwnL rgV w.heap.size 111 2 u _ (mayRegs (ps.take (k + 1)))) := Lh (by rw [HS.out]; exact HOu.out)
    go_wp2_with fail
    exact ⟨⟨k + 1, by omega, by simp, HO2, HGu⟩, by simp [intOf]; omega⟩
   | true =>
    go_wp2_with (refine sel (some 20) (.call _) ?_; refine Vm_stop ?_)
    refine HoleV.mk ?_
    refine wpList_snocL rgV rfl (.tmp 16) (.tmp 19) 378 rfl w.heap.size 111 (.agg #[.int .i64 0, .int .i64 0]) 2 16 Tryz.underlying378 info_reg rfl (by omega) u3 (mayRegs (ps.take k)) rfl (HOu.out.non ((Chg.refl Non u).alloc _) (fun _ _ h => h)) u.heap.size ⟨y, z⟩ #[.int .i64 y, .int .i64 z] 111 rfl (blk_new _ _) rfl (by simp [Value.oneCell']) ?_ (by omega) ?_ (fun _ _ _ _ h => h) rfl ?_
    ·have h1 := mayRegs_len (ps.take k)
     rw [List.length_take] at h1
     omega
    ·have := HGu.out.size
     simp
     omega
    intro v2 w2 ho hg hv
    have HO2 : Hid (OwnL rgV w.heap.size 111 2 w2 v2 (mayRegs (ps.take (k + 1)))) := Lh (by rw [HS.out, if_pos (by trivial)]; exact ho)
    have HG2 : Hid (Chg Non w w2) := Lh ((HGu.out.alloc _).then_new hg (fun x e => (HOu.out.ge e).1))
    clear ho hg hv
    go_wp2_with fail
    exact ⟨⟨k + 1, by omega, by simp, HO2, HG2⟩, by simp [intOf]; omega⟩
  ·obtain rfl : k = ps.length := by omega
   have hltd : decide ((ps.length : Int) < (ps.length : Int)) = false := by simp
   have ho := HO.out
   rw [List.take_length] at ho
   obtain ⟨A3, c3, rfl, h1, h2, h3⟩ := ho.rd
   have HA := Lh (regAll_ok _ A3 (mayRegs ps) c3 wr h3 h1 h2)
   clear ho h3 HO h2
   obtain ⟨e0, he0⟩ : ∃ e0, regAll (mayRegs ps) = e0 := ⟨_, rfl⟩
   rw [he0] at HA HE
   clear he0
   go_wp2_with fail
   refine HA.out.mono ?_
   rintro e u ⟨rfl, hg⟩
   have HG2 := Lh (HG.out.then_non hg)
   clear hg
   go_wp2_with fail
   go_ret
   exact ⟨ret_b (by rw [HE.out]; by_cases h : e0 = 0 <;> simp [h]), HG2.out⟩
def rulesV : Array Value := #[.int .i64 90, .func (.func 324) #[] #[], .int .i64 120, .func (.func 325) #[] #[], .int .i64 80, .func (.func 326) #[] #[], .int .i64 121, .func (.func 327) #[] #[], .int .i64 100, .func (.func 328) #[] #[]]
theorem rules_ok (w : World) : Calls Tryz.prog 277 #[] w fun e w' => e = .returned (.agg rulesV) ∧ Chg Non w w' := by
 go_enter Tryz.func277, Tryz.ntmps277
 go_wp2_with (first
   | (refine sel (some 6) (.build 322 _) ?_; refine wpList_valA rfl (some 6) (.agg rulesV) rfl (by kernel_rfl) ?_)
   | (refine sel none (.store 322 (.tmp 0) (.tmp 6)) ?_
      refine wpList_store_rowA rfl 322 (.tmp 0) (.tmp 6) rfl w.heap.size rulesV rfl rfl 322 _ (blk_new _ _) (by kernel_rfl) rfl (by simp [rulesV, Value.oneCell']) ?_
      intro W hgW hbW))
 exact bodyPost_ret (res_c Tryz.results277 _ _ w.heap.size 322 rulesV (0, 0) _ (by kernel_rfl) hbW Tryz.underlying322 rfl (by kernel_rfl)) (by kernel_rfl) ⟨rfl, ((Chg.refl Non w).alloc _).then_new hgW (fun x e => by omega)⟩
def errV : World → Int → List Value → Prop := fun _ x vs => vs = [.int .i64 x]
theorem info_err : (Tryz.prog.info? 37).map (fun i => (i.zero, i.size, i.bytes)) = some (some (.int .i64 0), 1, 8) := by kernel_rfl
noncomputable def wrongs (c : Cfg) : List (Int × Bool) := [(90, windowsBad c), (120, partsBad c.ps), (80, regionsBad c), (121, overlapBad c.ps), (100, channelsBad c)]
noncomputable def errsTo (c : Cfg) (k : Nat) : List Int := (((wrongs c).take k).filter (·.2)).map (·.1)
theorem errsTo_succ (c : Cfg) {k : Nat} {e : Int} {q : Bool} (h : (wrongs c)[k]? = some (e, q)) : errsTo c (k + 1) = if q = true then errsTo c k ++ [e] else errsTo c k := by
 obtain ⟨hk, he⟩ := List.getElem?_eq_some_iff.1 h
 unfold errsTo
 rw [List.take_succ_eq_append_getElem hk, he, List.filter_append, List.map_append]
 cases q <;> simp
theorem errsTo_len (c : Cfg) (k : Nat) : (errsTo c k).length ≤ 5 := by
 unfold errsTo
 rw [List.length_map]
 refine Nat.le_trans (List.length_filter_le _ _) ?_
 rw [List.length_take]
 simp [wrongs]
 omega
end
section
open Go.RowKit
structure CfgR (I : Nat → Prop) (w : World) (c : Cfg) (A1 A2 A3 : Option Addr) (c1 c2 c3 : Nat) : Prop where
 ws : RdL winV I 2 w A1 c.ws
 ps : RdL (pnV I) I 5 w A2 c.ps
 cs : RdL chV I 5 w A3 c.cs
 l1 : c.ws.length ≤ c1 ∧ c1 ≤ maxLen
 l2 : c.ps.length ≤ c2 ∧ c2 ≤ maxLen
 l3 : c.cs.length ≤ c3 ∧ c3 ≤ maxLen
theorem CfgR.non {I : Nat → Prop} {w w' : World} {c : Cfg} {A1 A2 A3 : Option Addr} {c1 c2 c3 : Nat} (h : CfgR I w c A1 A2 A3 c1 c2 c3) (hg : Chg Non w w') : CfgR I w' c A1 A2 A3 c1 c2 c3 :=
 ⟨h.ws.non hg (fun _ _ h => h), h.ps.non hg (fun a vs h => pnV_non _ _ _ _ hg h), h.cs.non hg (fun _ _ h => h), h.l1, h.l2, h.l3⟩
theorem CfgR.box {I : Nat → Prop} {w : World} {c : Cfg} {A1 A2 A3 : Option Addr} {c1 c2 c3 : Nat} (h : CfgR I w c A1 A2 A3 c1 c2 c3) : ∀ W g, Chg Non w W → W.heap[g]? = some (.cells #[.slice A1 c.ws.length c1, .slice A2 c.ps.length c2, .slice A3 c.cs.length c3] 28 (0, 0)) → CfgB I W c g A1 A2 A3 c1 c2 c3 := fun W g hg hb =>
 ⟨hb, (h.non hg).ws, (h.non hg).ps, (h.non hg).cs, h.l1, h.l2, h.l3⟩
def ErrsP (l : List Int) (w : World) (e : Ending) (w' : World) : Prop := ∃ v, e = .returned v ∧ OwnL errV w.heap.size 37 1 w' v l ∧ Chg Non w w'
theorem vAll_ok (I : Nat → Prop) (w : World) (c : Cfg) (A1 A2 A3 : Option Addr) (c1 c2 c3 : Nat) (h : CfgR I w c A1 A2 A3 c1 c2 c3) (h20 : c.ps.length ≤ 1000) :
  Calls Tryz.prog 201 #[.agg #[.slice A1 c.ws.length c1, .slice A2 c.ps.length c2, .slice A3 c.cs.length c3]] w (ErrsP (errsTo c 5) w) := by
 have HRl := Lh (fun W => rules_ok W)
 have H0 := Lh (fun W (hg : Chg Non w W) => windows_ok I W c A1 A2 A3 c1 c2 c3 (h.non hg).box)
 have H1 := Lh (fun W (hg : Chg Non w W) => parts_ok I W (.slice A1 c.ws.length c1) (.slice A3 c.cs.length c3) A2 c.ps c2 (h.non hg).ps h.l2.1 h.l2.2 rfl rfl)
 have H2 := Lh (fun W (hg : Chg Non w W) => regions_ok I W c (.slice A1 c.ws.length c1) (.slice A3 c.cs.length c3) A2 c2 (h.non hg).ps h.l2.1 h.l2.2 rfl rfl)
 have H3 := Lh (fun W (hg : Chg Non w W) => overlap_ok I W (.slice A1 c.ws.length c1) (.slice A3 c.cs.length c3) A2 c.ps c2 (h.non hg).ps h.l2.1 h.l2.2 h20 rfl rfl)
 have H4 := Lh (fun W (hg : Chg Non w W) => channels_ok I W c A1 A2 A3 c1 c2 c3 (h.non hg).box)
 clear h
 obtain ⟨q0, hq0⟩ : ∃ q, windowsBad c = q := ⟨_, rfl⟩
 obtain ⟨q1, hq1⟩ : ∃ q, partsBad c.ps = q := ⟨_, rfl⟩
 obtain ⟨q2, hq2⟩ : ∃ q, regionsBad c = q := ⟨_, rfl⟩
 obtain ⟨q3, hq3⟩ : ∃ q, overlapBad c.ps = q := ⟨_, rfl⟩
 obtain ⟨q4, hq4⟩ : ∃ q, channelsBad c = q := ⟨_, rfl⟩
 have HW : Hid (wrongs c = [(90, q0), (120, q1), (80, q2), (121, q3), (100, q4)]) := Lh (by rw [wrongs, hq0, hq1, hq2, hq3, hq4])
 simp only [hq0] at H0
 simp only [hq1] at H1
 simp only [hq2] at H2
 simp only [hq3] at H3
 simp only [hq4] at H4
 clear hq0 hq1 hq2 hq3 hq4
 have i0 : ∀ W, (Instr.index 322 (.agg rulesV) (.int .i64 0)).run Tryz.prog W = .ok (.agg #[.int .i64 90, .func (.func 324) #[] #[]]) W := fun _ => by kernel_rfl
 have i1 : ∀ W, (Instr.index 322 (.agg rulesV) (.int .i64 1)).run Tryz.prog W = .ok (.agg #[.int .i64 120, .func (.func 325) #[] #[]]) W := fun _ => by kernel_rfl
 have i2 : ∀ W, (Instr.index 322 (.agg rulesV) (.int .i64 2)).run Tryz.prog W = .ok (.agg #[.int .i64 80, .func (.func 326) #[] #[]]) W := fun _ => by kernel_rfl
 have i3 : ∀ W, (Instr.index 322 (.agg rulesV) (.int .i64 3)).run Tryz.prog W = .ok (.agg #[.int .i64 121, .func (.func 327) #[] #[]]) W := fun _ => by kernel_rfl
 have i4 : ∀ W, (Instr.index 322 (.agg rulesV) (.int .i64 4)).run Tryz.prog W = .ok (.agg #[.int .i64 100, .func (.func 328) #[] #[]]) W := fun _ => by kernel_rfl
 go_enter Tryz.func201, Tryz.ntmps201
 go_wp2_with fail
 refine (HRl.out _).mono ?_
 rintro e u ⟨rfl, hg⟩
 have hb1 := blk_call hg
 have HG0 := Lh (((Chg.refl Non w).alloc _).then_non hg)
 have HB1 := Lh hb1
 clear hg hb1 HRl
 go_wp2_with fail
 go_loopw [7, 3] (fun iv lv wr => ∃ k : Nat, k ≤ 5 ∧ iv = .int .i64 k ∧ Hid (OwnL errV w.heap.size 37 1 wr lv (errsTo c k)) ∧ Hid (wr.heap[w.heap.size]? = some (.cells #[.slice A1 c.ws.length c1, .slice A2 c.ps.length c2, .slice A3 c.cs.length c3] 28 (0, 0))) ∧ Hid (∀ g, lv.ownBlock = some g → w.heap.size < g) ∧ Hid (Chg Non w wr)) (fun iv _ _ => 5 - (intOf iv).toNat)
 case atStart => exact ⟨0, Nat.zero_le _, rfl, Lh (OwnL.nil _ _ _ _ _), HB1, Lh (fun g e => by simp [Value.ownBlock] at e), HG0⟩
 case round =>
  obtain ⟨k, hk, rfl, HO, HB, HX, HG⟩ := hrel
  have b0 := blk_cell HB.out 0 (v := .slice A1 c.ws.length c1) rfl
  have b1 := blk_cell HB.out 1 (v := .slice A2 c.ps.length c2) rfl
  have b2 := blk_cell HB.out 2 (v := .slice A3 c.cs.length c3) rfl
  have hwl := blk_lt HB.out
  by_cases hlt : k < 5
  ·have : k = 0 ∨ k = 1 ∨ k = 2 ∨ k = 3 ∨ k = 4 := by omega
   rcases this with rfl | rfl | rfl | rfl | rfl
   ·have HS := Lh (fun h => errsTo_succ c (k := 0) (e := 90) (q := q0) h)
    have HS := Lh (HS.out (by rw [HW.out]; rfl))
    clear H1 i1 H2 i2 H3 i3 H4 i4
    go_wp2_with (refine sel none (.store 321 (.tmp 5) (.tmp 9)) ?_
                 refine wpList_store_rowA rfl 321 (.tmp 5) (.tmp 9) rfl wr.heap.size #[.int .i64 90, .func (.func 324) #[] #[]] rfl rfl 321 _ (blk_new _ _) (by kernel_rfl) rfl (by simp [Value.oneCell']) ?_
                 intro V hgV hbV
                 have hgnV : Chg Non wr V := ((Chg.refl Non wr).alloc _).then_new hgV (fun x e => by omega)
                 have b0 := blk_cell (blk_keep HB.out hgnV (fun e => e)) 0 (v := .slice A1 c.ws.length c1) rfl
                 have b1 := blk_cell (blk_keep HB.out hgnV (fun e => e)) 1 (v := .slice A2 c.ps.length c2) rfl
                 have b2 := blk_cell (blk_keep HB.out hgnV (fun e => e)) 2 (v := .slice A3 c.cs.length c3) rfl
                 have z1 := blk_cell hbV 1 (v := .func (.func 324) #[] #[]) rfl
                 have HbV := Lh hbV
                 have HgV := Lh hgnV
                 clear hgV hbV hgnV)
    refine (H0.out _ (HG.out.then_non HgV.out)).mono ?_
    rintro e v ⟨rfl, hg⟩
    have hv0 := blk_keep HbV.out hg (fun e => e)
    have m0 := blk_cell hv0 0 (v := .int .i64 90) rfl
    have HGv := Lh ((HG.out.then_non HgV.out).then_non hg)
    have hgn := HgV.out.then_non hg
    have HBv := Lh (blk_keep HB.out hgn (fun e => e))
    have HOv := Lh (HO.out.non hgn (fun _ _ h => h))
    clear hg hv0 hgn b0 b1 b2
    cases q0 with
    | false =>
     have HO2 : Hid (OwnL errV w.heap.size 37 1 v u3 (errsTo c 1)) := Lh (by rw [HS.out]; exact HOv.out)
     go_wp2_with fail
     exact ⟨⟨1, by omega, by simp, HO2, HBv, HX, HGv⟩, by simp [intOf]⟩
    | true =>
     go_wp2_with (refine sel (some 18) (.call _) ?_; refine Vm_stop ?_)
     refine HoleV.mk ?_
     refine wpList_snocL errV rfl (.tmp 14) (.tmp 17) 257 rfl w.heap.size 37 (.int .i64 0) 1 8 Tryz.underlying257 info_err rfl (by omega) u3 (errsTo c 0) rfl (HOv.out.non ((Chg.refl Non v).alloc _) (fun _ _ h => h)) v.heap.size 90 #[.int .i64 90] 37 rfl (blk_new _ _) rfl (by simp [Value.oneCell']) (by have := errsTo_len c 0; omega) (by omega) (by have := HGv.out.size; simp; omega) (fun _ _ _ _ h => h) rfl ?_
     intro v2 w2 ho hg hv
     have hne : ¬ (u3.ownBlock = some w.heap.size) := fun e => by have := HX.out _ e; omega
     have HO2 : Hid (OwnL errV w.heap.size 37 1 w2 v2 (errsTo c 1)) := Lh (by rw [HS.out, if_pos (by trivial)]; exact ho)
     have HG2 : Hid (Chg Non w w2) := Lh ((HGv.out.alloc _).then_new hg (fun x e => (HOv.out.ge e).1))
     have HB2 := Lh (blk_keep (blk_keep HBv.out ((Chg.refl Non v).alloc _) (fun e => e)) hg hne)
     have HX2 : Hid (∀ g, v2.ownBlock = some g → w.heap.size < g) := Lh (fun g e => by
       rcases hv g e with h | h
       · exact HX.out g h
       · have := blk_lt HBv.out
         simp at h
         omega)
     clear ho hg hv hne
     go_wp2_with fail
     exact ⟨⟨1, by omega, by simp, HO2, HB2, HX2, HG2⟩, by simp [intOf]⟩
   ·have HS := Lh (fun h => errsTo_succ c (k := 1) (e := 120) (q := q1) h)
    have HS := Lh (HS.out (by rw [HW.out]; rfl))
    clear H0 i0 H2 i2 H3 i3 H4 i4
    go_wp2_with (refine sel none (.store 321 (.tmp 5) (.tmp 9)) ?_
                 refine wpList_store_rowA rfl 321 (.tmp 5) (.tmp 9) rfl wr.heap.size #[.int .i64 120, .func (.func 325) #[] #[]] rfl rfl 321 _ (blk_new _ _) (by kernel_rfl) rfl (by simp [Value.oneCell']) ?_
                 intro V hgV hbV
                 have hgnV : Chg Non wr V := ((Chg.refl Non wr).alloc _).then_new hgV (fun x e => by omega)
                 have b0 := blk_cell (blk_keep HB.out hgnV (fun e => e)) 0 (v := .slice A1 c.ws.length c1) rfl
                 have b1 := blk_cell (blk_keep HB.out hgnV (fun e => e)) 1 (v := .slice A2 c.ps.length c2) rfl
                 have b2 := blk_cell (blk_keep HB.out hgnV (fun e => e)) 2 (v := .slice A3 c.cs.length c3) rfl
                 have z1 := blk_cell hbV 1 (v := .func (.func 325) #[] #[]) rfl
                 have HbV := Lh hbV
                 have HgV := Lh hgnV
                 clear hgV hbV hgnV)
    refine (H1.out _ (HG.out.then_non HgV.out)).mono ?_
    rintro e v ⟨rfl, hg⟩
    have hv0 := blk_keep HbV.out hg (fun e => e)
    have m0 := blk_cell hv0 0 (v := .int .i64 120) rfl
    have HGv := Lh ((HG.out.then_non HgV.out).then_non hg)
    have hgn := HgV.out.then_non hg
    have HBv := Lh (blk_keep HB.out hgn (fun e => e))
    have HOv := Lh (HO.out.non hgn (fun _ _ h => h))
    clear hg hv0 hgn b0 b1 b2
    cases q1 with
    | false =>
     have HO2 : Hid (OwnL errV w.heap.size 37 1 v u3 (errsTo c 2)) := Lh (by rw [HS.out]; exact HOv.out)
     go_wp2_with fail
     exact ⟨⟨2, by omega, by simp, HO2, HBv, HX, HGv⟩, by simp [intOf]⟩
    | true =>
     go_wp2_with (refine sel (some 18) (.call _) ?_; refine Vm_stop ?_)
     refine HoleV.mk ?_
     refine wpList_snocL errV rfl (.tmp 14) (.tmp 17) 257 rfl w.heap.size 37 (.int .i64 0) 1 8 Tryz.underlying257 info_err rfl (by omega) u3 (errsTo c 1) rfl (HOv.out.non ((Chg.refl Non v).alloc _) (fun _ _ h => h)) v.heap.size 120 #[.int .i64 120] 37 rfl (blk_new _ _) rfl (by simp [Value.oneCell']) (by have := errsTo_len c 1; omega) (by omega) (by have := HGv.out.size; simp; omega) (fun _ _ _ _ h => h) rfl ?_
     intro v2 w2 ho hg hv
     have hne : ¬ (u3.ownBlock = some w.heap.size) := fun e => by have := HX.out _ e; omega
     have HO2 : Hid (OwnL errV w.heap.size 37 1 w2 v2 (errsTo c 2)) := Lh (by rw [HS.out, if_pos (by trivial)]; exact ho)
     have HG2 : Hid (Chg Non w w2) := Lh ((HGv.out.alloc _).then_new hg (fun x e => (HOv.out.ge e).1))
     have HB2 := Lh (blk_keep (blk_keep HBv.out ((Chg.refl Non v).alloc _) (fun e => e)) hg hne)
     have HX2 : Hid (∀ g, v2.ownBlock = some g → w.heap.size < g) := Lh (fun g e => by
       rcases hv g e with h | h
       · exact HX.out g h
       · have := blk_lt HBv.out
         simp at h
         omega)
     clear ho hg hv hne
     go_wp2_with fail
     exact ⟨⟨2, by omega, by simp, HO2, HB2, HX2, HG2⟩, by simp [intOf]⟩
   ·have HS := Lh (fun h => errsTo_succ c (k := 2) (e := 80) (q := q2) h)
    have HS := Lh (HS.out (by rw [HW.out]; rfl))
    clear H0 i0 H1 i1 H3 i3 H4 i4
    go_wp2_with (refine sel none (.store 321 (.tmp 5) (.tmp 9)) ?_
                 refine wpList_store_rowA rfl 321 (.tmp 5) (.tmp 9) rfl wr.heap.size #[.int .i64 80, .func (.func 326) #[] #[]] rfl rfl 321 _ (blk_new _ _) (by kernel_rfl) rfl (by simp [Value.oneCell']) ?_
                 intro V hgV hbV
                 have hgnV : Chg Non wr V := ((Chg.refl Non wr).alloc _).then_new hgV (fun x e => by omega)
                 have b0 := blk_cell (blk_keep HB.out hgnV (fun e => e)) 0 (v := .slice A1 c.ws.length c1) rfl
                 have b1 := blk_cell (blk_keep HB.out hgnV (fun e => e)) 1 (v := .slice A2 c.ps.length c2) rfl
                 have b2 := blk_cell (blk_keep HB.out hgnV (fun e => e)) 2 (v := .slice A3 c.cs.length c3) rfl
                 have z1 := blk_cell hbV 1 (v := .func (.func 326) #[] #[]) rfl
                 have HbV := Lh hbV
                 have HgV := Lh hgnV
                 clear hgV hbV hgnV)
    refine (H2.out _ (HG.out.then_non HgV.out)).mono ?_
    rintro e v ⟨rfl, hg⟩
    have hv0 := blk_keep HbV.out hg (fun e => e)
    have m0 := blk_cell hv0 0 (v := .int .i64 80) rfl
    have HGv := Lh ((HG.out.then_non HgV.out).then_non hg)
    have hgn := HgV.out.then_non hg
    have HBv := Lh (blk_keep HB.out hgn (fun e => e))
    have HOv := Lh (HO.out.non hgn (fun _ _ h => h))
    clear hg hv0 hgn b0 b1 b2
    cases q2 with
    | false =>
     have HO2 : Hid (OwnL errV w.heap.size 37 1 v u3 (errsTo c 3)) := Lh (by rw [HS.out]; exact HOv.out)
     go_wp2_with fail
     exact ⟨⟨3, by omega, by simp, HO2, HBv, HX, HGv⟩, by simp [intOf]⟩
    | true =>
     go_wp2_with (refine sel (some 18) (.call _) ?_; refine Vm_stop ?_)
     refine HoleV.mk ?_
     refine wpList_snocL errV rfl (.tmp 14) (.tmp 17) 257 rfl w.heap.size 37 (.int .i64 0) 1 8 Tryz.underlying257 info_err rfl (by omega) u3 (errsTo c 2) rfl (HOv.out.non ((Chg.refl Non v).alloc _) (fun _ _ h => h)) v.heap.size 80 #[.int .i64 80] 37 rfl (blk_new _ _) rfl (by simp [Value.oneCell']) (by have := errsTo_len c 2; omega) (by omega) (by have := HGv.out.size; simp; omega) (fun _ _ _ _ h => h) rfl ?_
     intro v2 w2 ho hg hv
     have hne : ¬ (u3.ownBlock = some w.heap.size) := fun e => by have := HX.out _ e; omega
     have HO2 : Hid (OwnL errV w.heap.size 37 1 w2 v2 (errsTo c 3)) := Lh (by rw [HS.out, if_pos (by trivial)]; exact ho)
     have HG2 : Hid (Chg Non w w2) := Lh ((HGv.out.alloc _).then_new hg (fun x e => (HOv.out.ge e).1))
     have HB2 := Lh (blk_keep (blk_keep HBv.out ((Chg.refl Non v).alloc _) (fun e => e)) hg hne)
     have HX2 : Hid (∀ g, v2.ownBlock = some g → w.heap.size < g) := Lh (fun g e => by
       rcases hv g e with h | h
       · exact HX.out g h
       · have := blk_lt HBv.out
         simp at h
         omega)
     clear ho hg hv hne
     go_wp2_with fail
     exact ⟨⟨3, by omega, by simp, HO2, HB2, HX2, HG2⟩, by simp [intOf]⟩
   ·have HS := Lh (fun h => errsTo_succ c (k := 3) (e := 121) (q := q3) h)
    have HS := Lh (HS.out (by rw [HW.out]; rfl))
    clear H0 i0 H1 i1 H2 i2 H4 i4
    go_wp2_with (refine sel none (.store 321 (.tmp 5) (.tmp 9)) ?_
                 refine wpList_store_rowA rfl 321 (.tmp 5) (.tmp 9) rfl wr.heap.size #[.int .i64 121, .func (.func 327) #[] #[]] rfl rfl 321 _ (blk_new _ _) (by kernel_rfl) rfl (by simp [Value.oneCell']) ?_
                 intro V hgV hbV
                 have hgnV : Chg Non wr V := ((Chg.refl Non wr).alloc _).then_new hgV (fun x e => by omega)
                 have b0 := blk_cell (blk_keep HB.out hgnV (fun e => e)) 0 (v := .slice A1 c.ws.length c1) rfl
                 have b1 := blk_cell (blk_keep HB.out hgnV (fun e => e)) 1 (v := .slice A2 c.ps.length c2) rfl
                 have b2 := blk_cell (blk_keep HB.out hgnV (fun e => e)) 2 (v := .slice A3 c.cs.length c3) rfl
                 have z1 := blk_cell hbV 1 (v := .func (.func 327) #[] #[]) rfl
                 have HbV := Lh hbV
                 have HgV := Lh hgnV
                 clear hgV hbV hgnV)
    refine (H3.out _ (HG.out.then_non HgV.out)).mono ?_
    rintro e v ⟨rfl, hg⟩
    have hv0 := blk_keep HbV.out hg (fun e => e)
    have m0 := blk_cell hv0 0 (v := .int .i64 121) rfl
    have HGv := Lh ((HG.out.then_non HgV.out).then_non hg)
    have hgn := HgV.out.then_non hg
    have HBv := Lh (blk_keep HB.out hgn (fun e => e))
    have HOv := Lh (HO.out.non hgn (fun _ _ h => h))
    clear hg hv0 hgn b0 b1 b2
    cases q3 with
    | false =>
     have HO2 : Hid (OwnL errV w.heap.size 37 1 v u3 (errsTo c 4)) := Lh (by rw [HS.out]; exact HOv.out)
     go_wp2_with fail
     exact ⟨⟨4, by omega, by simp, HO2, HBv, HX, HGv⟩, by simp [intOf]⟩
    | true =>
     go_wp2_with (refine sel (some 18) (.call _) ?_; refine Vm_stop ?_)
     refine HoleV.mk ?_
     refine wpList_snocL errV rfl (.tmp 14) (.tmp 17) 257 rfl w.heap.size 37 (.int .i64 0) 1 8 Tryz.underlying257 info_err rfl (by omega) u3 (errsTo c 3) rfl (HOv.out.non ((Chg.refl Non v).alloc _) (fun _ _ h => h)) v.heap.size 121 #[.int .i64 121] 37 rfl (blk_new _ _) rfl (by simp [Value.oneCell']) (by have := errsTo_len c 3; omega) (by omega) (by have := HGv.out.size; simp; omega) (fun _ _ _ _ h => h) rfl ?_
     intro v2 w2 ho hg hv
     have hne : ¬ (u3.ownBlock = some w.heap.size) := fun e => by have := HX.out _ e; omega
     have HO2 : Hid (OwnL errV w.heap.size 37 1 w2 v2 (errsTo c 4)) := Lh (by rw [HS.out, if_pos (by trivial)]; exact ho)
     have HG2 : Hid (Chg Non w w2) := Lh ((HGv.out.alloc _).then_new hg (fun x e => (HOv.out.ge e).1))
     have HB2 := Lh (blk_keep (blk_keep HBv.out ((Chg.refl Non v).alloc _) (fun e => e)) hg hne)
     have HX2 : Hid (∀ g, v2.ownBlock = some g → w.heap.size < g) := Lh (fun g e => by
       rcases hv g e with h | h
       · exact HX.out g h
       · have := blk_lt HBv.out
         simp at h
         omega)
     clear ho hg hv hne
     go_wp2_with fail
     exact ⟨⟨4, by omega, by simp, HO2, HB2, HX2, HG2⟩, by simp [intOf]⟩
   ·have HS := Lh (fun h => errsTo_succ c (k := 4) (e := 100) (q := q4) h)
    have HS := Lh (HS.out (by rw [HW.out]; rfl))
    clear H0 i0 H1 i1 H2 i2 H3 i3
    go_wp2_with (refine sel none (.store 321 (.tmp 5) (.tmp 9)) ?_
                 refine wpList_store_rowA rfl 321 (.tmp 5) (.tmp 9) rfl wr.heap.size #[.int .i64 100, .func (.func 328) #[] #[]] rfl rfl 321 _ (blk_new _ _) (by kernel_rfl) rfl (by simp [Value.oneCell']) ?_
                 intro V hgV hbV
                 have hgnV : Chg Non wr V := ((Chg.refl Non wr).alloc _).then_new hgV (fun x e => by omega)
                 have b0 := blk_cell (blk_keep HB.out hgnV (fun e => e)) 0 (v := .slice A1 c.ws.length c1) rfl
                 have b1 := blk_cell (blk_keep HB.out hgnV (fun e => e)) 1 (v := .slice A2 c.ps.length c2) rfl
                 have b2 := blk_cell (blk_keep HB.out hgnV (fun e => e)) 2 (v := .slice A3 c.cs.length c3) rfl
                 have z1 := blk_cell hbV 1 (v := .func (.func 328) #[] #[]) rfl
                 have HbV := Lh hbV
                 have HgV := Lh hgnV
                 clear hgV hbV hgnV)
    refine (H4.out _ (HG.out.then_non HgV.out)).mono ?_
    rintro e v ⟨rfl, hg⟩
    have hv0 := blk_keep HbV.out hg (fun e => e)
    have m0 := blk_cell hv0 0 (v := .int .i64 100) rfl
    have HGv := Lh ((HG.out.then_non HgV.out).then_non hg)
    have hgn := HgV.out.then_non hg
    have HBv := Lh (blk_keep HB.out hgn (fun e => e))
    have HOv := Lh (HO.out.non hgn (fun _ _ h => h))
    clear hg hv0 hgn b0 b1 b2
    cases q4 with
    | false =>
     have HO2 : Hid (OwnL errV w.heap.size 37 1 v u3 (errsTo c 5)) := Lh (by rw [HS.out]; exact HOv.out)
     go_wp2_with fail
     exact ⟨⟨5, by omega, by simp, HO2, HBv, HX, HGv⟩, by simp [intOf]⟩
    | true =>
     go_wp2_with (refine sel (some 18) (.call _) ?_; refine Vm_stop ?_)
     refine HoleV.mk ?_
     refine wpList_snocL errV rfl (.tmp 14) (.tmp 17) 257 rfl w.heap.size 37 (.int .i64 0) 1 8 Tryz.underlying257 info_err rfl (by omega) u3 (errsTo c 4) rfl (HOv.out.non ((Chg.refl Non v).alloc _) (fun _ _ h => h)) v.heap.size 100 #[.int .i64 100] 37 rfl (blk_new _ _) rfl (by simp [Value.oneCell']) (by have := errsTo_len c 4; omega) (by omega) (by have := HGv.out.size; simp; omega) (fun _ _ _ _ h => h) rfl ?_
     intro v2 w2 ho hg hv
     have hne : ¬ (u3.ownBlock = some w.heap.size) := fun e => by have := HX.out _ e; omega
     have HO2 : Hid (OwnL errV w.heap.size 37 1 w2 v2 (errsTo c 5)) := Lh (by rw [HS.out, if_pos (by trivial)]; exact ho)
     have HG2 : Hid (Chg Non w w2) := Lh ((HGv.out.alloc _).then_new hg (fun x e => (HOv.out.ge e).1))
     have HB2 := Lh (blk_keep (blk_keep HBv.out ((Chg.refl Non v).alloc _) (fun e => e)) hg hne)
     have HX2 : Hid (∀ g, v2.ownBlock = some g → w.heap.size < g) := Lh (fun g e => by
       rcases hv g e with h | h
       · exact HX.out g h
       · have := blk_lt HBv.out
         simp at h
         omega)
     clear ho hg hv hne
     go_wp2_with fail
     exact ⟨⟨5, by omega, by simp, HO2, HB2, HX2, HG2⟩, by simp [intOf]⟩
  ·obtain rfl : k = 5 := by omega
   go_wp2_with fail
   go_ret
   exact ⟨_, rfl, HO.out, HG.out⟩
noncomputable def vCheck (c : Cfg) : Int := (errsTo c 5).headD 0
theorem vCheck_ok (I : Nat → Prop) (w : World) (c : Cfg) (A1 A2 A3 : Option Addr) (c1 c2 c3 : Nat) (h : CfgR I w c A1 A2 A3 c1 c2 c3) (h20 : c.ps.length ≤ 1000) :
  Calls Tryz.prog 129 #[.agg #[.slice A1 c.ws.length c1, .slice A2 c.ps.length c2, .slice A3 c.cs.length c3]] w fun e w' => e = .returned (.int .i64 (vCheck c)) ∧ Chg Non w w' := by
 have HA := Lh (fun W (hg : Chg Non w W) => vAll_ok I W c A1 A2 A3 c1 c2 c3 (h.non hg) h20)
 have HE : Hid (vCheck c = (errsTo c 5).headD 0) := Lh rfl
 clear h
 go_enter Tryz.func129, Tryz.ntmps129
 go_wp2_with fail
 refine (HA.out _ ((Chg.refl Non w).alloc _)).mono ?_
 rintro e u ⟨v, rfl, ho, hg⟩
 obtain ⟨A, cc, rfl, h1, h2, hr⟩ := ho.rd
 have HR := Lh hr
 have HG := Lh (((Chg.refl Non w).alloc _).then_non hg)
 clear ho hr hg h2 HA
 obtain ⟨l, hl⟩ : ∃ l, errsTo c 5 = l := ⟨_, rfl⟩
 rw [hl] at HE HR h1 ⊢
 clear hl
 go_wp2_with fail
 go_loopw [8] (fun iv wr => iv = .int .i64 0 ∧ wr = u) (fun _ _ => 0)
 case atStart => exact ⟨rfl, rfl⟩
 case round =>
  obtain ⟨rfl, rfl⟩ := hrel
  cases l with
  | nil =>
   go_wp2_with fail
   go_ret
   exact ⟨ret_i HE.out.symm, HG.out⟩
  | cons x t =>
   obtain ⟨b, o, vs, rfl, _, hlen, hcell, rfl⟩ := HR.out 0 x rfl
   have k0 : wr.cell? ⟨b, o, none⟩ = some (.int .i64 x) := by have := hcell 0 _ rfl; simpa using this
   clear hcell hlen
   go_wp2_with fail
   go_ret
   exact ⟨ret_i HE.out.symm, HG.out⟩
noncomputable def fitsB (c : Cfg) : Bool := vCheck c == 0
theorem fits_ok (I : Nat → Prop) (w : World) (c : Cfg) (A1 A2 A3 : Option Addr) (c1 c2 c3 : Nat) (h : CfgR I w c A1 A2 A3 c1 c2 c3) (h20 : c.ps.length ≤ 1000) :
  Calls Tryz.prog 61 #[.agg #[.slice A1 c.ws.length c1, .slice A2 c.ps.length c2, .slice A3 c.cs.length c3]] w fun e w' => e = .returned (.bool (fitsB c)) ∧ Chg Non w w' := by
 have HA := Lh (fun W (hg : Chg Non w W) => vCheck_ok I W c A1 A2 A3 c1 c2 c3 (h.non hg) h20)
 have HE : Hid (fitsB c = (vCheck c == 0)) := Lh rfl
 obtain ⟨e0, he⟩ : ∃ e, vCheck c = e := ⟨_, rfl⟩
 simp only [he] at HA HE
 clear h he
 go_enter Tryz.func61, Tryz.ntmps61
 go_wp2_with fail
 refine (HA.out _ ((Chg.refl Non w).alloc _)).mono ?_
 rintro e u ⟨rfl, hg⟩
 go_wp2_with fail
 go_ret
 exact ⟨ret_b HE.out.symm, ((Chg.refl Non w).alloc _).then_non hg⟩
end
section
open Go.RowKit
end
section
open Go.RowKit
end
section
open Go.RowKit
theorem BytesV.bound {I : Nat → Prop} {w : World} {l : List UInt8} {v : Value} (h : BytesV I w l v) : BytesV (fun b => I b ∧ b < w.heap.size) w l v := by
 obtain ⟨A, c, h1, h2, h3, h4, h5⟩ := h
 refine ⟨A, c, h1, h2, h3, h4, fun b o e hl => ⟨h5 b o e hl, ?_⟩⟩
 subst e
 obtain ⟨b', o', e', hlt, _⟩ := h4.at_ (List.length_pos_iff.2 hl)
 injection e' with e'
 injection e' with e' _ _
 subst e'
 exact hlt
theorem msgV.bound {I : Nat → Prop} {w : World} {a : List UInt8} {vs : List Value} (h : msgV I w a vs) : msgV (fun b => I b ∧ b < w.heap.size) w a vs := by
 obtain ⟨m, h1, h2, h3⟩ := h
 exact ⟨m, h1, h2.bound, h3⟩
theorem OwnL.mono {α : Type} {R R' : World → α → List Value → Prop} {B : Nat} {e : TypeId} {sz : Nat} {w : World} {v : Value} {l : List α} (h : OwnL R B e sz w v l) (hR : ∀ a vs, R w a vs → R' w a vs) : OwnL R' B e sz w v l := by
 obtain ⟨xss, h1, h2, h3, h4⟩ := h
 exact ⟨xss, h1, h2, h3, fun i a x ha hx => hR _ _ (h4 i a x ha hx)⟩
theorem OwnL.base {α : Type} {R : World → α → List Value → Prop} {B B' : Nat} {e : TypeId} {sz : Nat} {w : World} {v : Value} {l : List α} (h : OwnL R B e sz w v l) (hB : B' ≤ B) : OwnL R B' e sz w v l := by
 obtain ⟨xss, ⟨h1, h2⟩, h3⟩ := h
 refine ⟨xss, ⟨h1, ?_⟩, h3⟩
 rcases h2 with h0 | ⟨g, cap, cur, rfl, hb, hh, h4⟩
 ·exact .inl h0
 ·exact .inr ⟨g, cap, cur, rfl, by omega, hh, h4⟩
def Exc (B : Nat) (v : Value) : Nat → Prop := fun b => B ≤ b ∧ v.ownBlock ≠ some b
end
section
open Go.RowKit
end
section
open Go.RowKit
theorem al_2_0 (w : World) (a b : Obj) : ((w.alloc a).alloc b).heap[w.heap.size]? = some a := by
 rw [Below.heap_alloc _ _ _ (by simp), heap_alloc_new]
theorem al_2_1 (w : World) (a b : Obj) : ((w.alloc a).alloc b).heap[w.heap.size + 1]? = some b := by
 rw [show w.heap.size + 1 = (w.alloc a).heap.size by simp, heap_alloc_new]
theorem al_3_0 (w : World) (a b c : Obj) : (((w.alloc a).alloc b).alloc c).heap[w.heap.size]? = some a := by
 rw [Below.heap_alloc _ _ _ (by simp; omega), al_2_0]
theorem al_3_1 (w : World) (a b c : Obj) : (((w.alloc a).alloc b).alloc c).heap[w.heap.size + 1]? = some b := by
 rw [Below.heap_alloc _ _ _ (by simp), al_2_1]
theorem al_3_2 (w : World) (a b c : Obj) : (((w.alloc a).alloc b).alloc c).heap[w.heap.size + 1 + 1]? = some c := by
 rw [show w.heap.size + 1 + 1 = ((w.alloc a).alloc b).heap.size by simp, heap_alloc_new]
end
section
open Go.RowKit
section
variable {α : Type} {ok : α → Bool} {id : α → Int} {l : List α}
end
end
section
open Go.RowKit
theorem keyLits_i64 {P : Program} {e : TypeId} {D : Nat} (he : P.underlying e = some (.int .i64)) (n : Int) (h : -9223372036854775808 ≤ n ∧ n ≤ 9223372036854775807) : P.keyLits (D + 1) e [.int .i64 n] = some [.int .i64 n] := by
 unfold Program.keyLits
 rw [he]
 have hw : (Lit.int .i64 n).wf = true := WalkArith.wf_i64 (by omega)
 simp only [true_and, hw, if_true]
end
section
open Go.RowKit
section
variable {α β : Type} {p : α → β → Bool} {l : List α} {m : List β}
end
theorem sz_of {vs : List Value} {o : Array Value} {n : Nat} (h : vs.length = n) (ho : o.size = n) : o.size = vs.toArray.size := by simp [h, ho]
theorem all_one {vs : List Value} (h : ∀ u ∈ vs, u.oneCell' = true) : vs.toArray.all (·.oneCell') = true := by
 rw [List.all_toArray, List.all_eq_true]
 exact h
end
section
open Go.RowKit
theorem run_results_cell_tmp {P : Program} {fn : Func} {p q : Tmp} {ty : TypeId} (h : fn.results = #[.cell p ty, .tmp q]) (tmps : Array Value) (w : World) (g : Nat) (t : TypeId) (cs : Array Value) (fr : Nat × Nat) (d : TypeDesc) (v : Value)
  (hp : tmps.getD p undef = .pointer (some ⟨g, 0, none⟩)) (hv : tmps.getD q undef = v) (hg : w.heap[g]? = some (.cells cs t fr))
  (hu : P.underlying ty = some d) (hd : (match d with | .struct _ | .array _ _ => true | _ => false) = true) (hi : (P.info? ty).map (·.size) = some cs.size) :
  (results fn tmps).run P w = .ok (.tuple #[.agg cs, v]) w := by
 have hp' : tmps[p]?.getD undef = .pointer (some ⟨g, 0, none⟩) := by simpa using hp
 have hv' : tmps[q]?.getD undef = v := by simpa using hv
 simp [results, h, hp', hv', asAddr, run_loadVar_row w g t ty cs fr d hg hu hd hi]
def tagA (l : List UInt8) : Array Value := (l.map bv).toArray
theorem tagA_size (l : List UInt8) (h : l.length = 32) : (tagA l).size = 32 := by simp [tagA, h]
theorem tagA_one (l : List UInt8) : (tagA l).all (·.oneCell') = true := secV_one l
def zTag : List UInt8 := List.replicate 32 0
theorem zTag_len : zTag.length = 32 := by simp [zTag]
theorem info_tag : (Tryz.prog.info? 23).map (·.size) = some 32 := by kernel_rfl
theorem wpList_load_tag {w : World} {ops : Array Oper} {rest : List Oper} {op : Oper} {a : Act} {Q : Exit → Act → World → Prop} (hgd : op.guard = none) (x : Operand) (ho : op.op = .load 23 x)
  (b o : Nat) (hx : a.eval x = .pointer (some ⟨b, o, none⟩)) (l : List UInt8) (hc : w.rangeAt b o (l.map bv)) (hl : l.length = 32)
  (h : wpList Tryz.prog ops Q rest (a.put op.dst (.agg (tagA l))) w) : wpList Tryz.prog ops Q (op :: rest) a w :=
 wpList_load_mid hgd 23 x ho b o hx (l.map bv) _ hc Tryz.underlying23 rfl (by rw [List.length_map, hl]; exact info_tag) h
theorem range_of_rd {w : World} {b o : Nat} {l : List UInt8} (h : Rd w (some ⟨b, o, none⟩) l) : w.rangeAt b o (l.map bv) := by
 intro j v hv
 rw [List.getElem?_map] at hv
 obtain ⟨x, hx, rfl⟩ := Option.map_eq_some_iff.1 hv
 obtain ⟨b', o', e, hc⟩ := h j x hx
 injection e with e
 injection e with e1 e2
 subst e1 e2
 exact hc
theorem range_of_tag {w : World} {g : Nat} {t : TypeId} {fr : Nat × Nat} {l : List UInt8} (h : w.heap[g]? = some (.cells (tagA l) t fr)) : w.rangeAt g 0 (l.map bv) := by
 intro j v hv
 rw [cell_of_row _ _ _ _ _ _ h, Nat.zero_add]
 simpa [tagA] using hv
theorem Tag1_ok (A : Option Addr) (l : List UInt8) (w : World) (hr : Rd w A l) (hl : l.length = 32) :
  Calls Tryz.prog 263 #[.slice A 32 32] w fun e w' => e = .returned (.tuple #[.agg (tagA l), .bool true]) ∧ Chg Non w w' := by
 obtain ⟨b, o, rfl, hbl, _⟩ := hr.at_ (by omega)
 have HR := Lh (range_of_rd hr)
 have HL := Lh hl
 clear hr hl
 go_enter Tryz.func263, Tryz.ntmps263
 obtain ⟨Z, hZ⟩ : ∃ Z, tagA zTag = Z := ⟨_, rfl⟩
 go_wp2_with (first
   | (refine sel (some 5) (.sliceToArrayPointer 23 (.tmp 4)) ?_; refine wpList_plain rfl (fun K hK => ?_); go_simp; refine hK _ _ ?_)
   | (refine sel (some 6) (.load 23 (.tmp 5)) ?_; refine wpList_load_tag rfl (.tmp 5) rfl b o rfl l (fun j v hv => ((Chg.refl Non w).alloc _).cell_some (HR.out j v hv) (fun e => e)) HL.out ?_)
   | (refine sel none (.store 23 (.tmp 2) (.tmp 6)) ?_
      refine wpList_store_rowA rfl 23 (.tmp 2) (.tmp 6) rfl w.heap.size (tagA l) rfl rfl 23 _ (heap_alloc_new _ _) (by rw [tagA_size _ HL.out]; exact info_tag) (by rw [tagA_size _ HL.out]; rfl) (tagA_one _) ?_
      intro W hgW hbW
      have HB := Lh hbW
      have hg1 : Chg Non w W := ((Chg.refl Non w).alloc _).then_new hgW (fun x e => by rw [e]; exact Nat.le_refl _)
      clear hbW hgW))
 exact bodyPost_ret (run_results_cell_tmp Tryz.results263 _ _ w.heap.size 23 (tagA l) (0, 0) _ (.bool true) rfl rfl HB.out Tryz.underlying23 rfl (by rw [tagA_size _ HL.out]; exact info_tag)) rfl ⟨rfl, hg1⟩
def rdTag (l : List UInt8) (er : Int) : List UInt8 × List UInt8 × Int :=
 if er = 0 then (if 32 ≤ l.length then (l.take 32, l.drop 32, 0) else (zTag, [], 50)) else (zTag, l, er)
theorem rdTag_len (l : List UInt8) (er : Int) : (rdTag l er).1.length = 32 := by
 unfold rdTag
 split
 ·split
  ·rw [List.length_take]; omega
  ·exact zTag_len
 ·exact zTag_len
def IsRB (S : Nat) (w : World) (p : Nat) (l : List UInt8) (er : Int) : Prop :=
 ∃ A c, w.heap[p]? = some (.cells #[.slice A l.length c, .bool true, .int .i64 er] 302 (0, 0)) ∧ Rd w A l ∧ l.length ≤ c ∧ c ≤ maxLen ∧ ∀ b o, A = some ⟨b, o, none⟩ → l ≠ [] → b < S
theorem IsR.below {w : World} {p : Nat} {l : List UInt8} {er : Int} (h : IsR w p l er) : IsRB w.heap.size w p l er := by
 obtain ⟨A, c, hb, hr, h3, h4⟩ := h
 refine ⟨A, c, hb, hr, h3, h4, ?_⟩
 rintro b o rfl hne
 obtain ⟨b', o', e, hlt, _⟩ := hr.at_ (List.length_pos_iff.2 hne)
 injection e with e
 injection e with e1 _
 subst e1
 exact hlt
theorem IsRB.keep {T : Nat → Prop} {S p : Nat} {w w' : World} {l : List UInt8} {er : Int} (h : IsRB S w p l er) (hg : Chg T w w') (hp : ¬ T p) (hT : ∀ b, b < S → ¬ T b) : IsRB S w' p l er := by
 obtain ⟨A, c, hb, hr, h3, h4, h5⟩ := h
 exact ⟨A, c, (hg.block p (Array.getElem?_eq_some_iff.1 hb).1 hp).trans hb, hr.keep hg (fun b o e hne => hT b (h5 b o e hne)), h3, h4, h5⟩
theorem IsRB.lt {S p : Nat} {w : World} {l : List UInt8} {er : Int} (h : IsRB S w p l er) : p < w.heap.size := by
 obtain ⟨A', c', hb, _⟩ := h; exact (Array.getElem?_eq_some_iff.1 hb).1
theorem IsRB.isR {S p : Nat} {w : World} {l : List UInt8} {er : Int} (h : IsRB S w p l er) : IsR w p l er := by
 obtain ⟨A, c, hb, hr, h3, h4, h5⟩ := h
 exact ⟨A, c, hb, hr, h3, h4⟩
theorem take_okB (S p n : Nat) (l : List UInt8) (w : World) (hR : IsRB S w p l 0) (hn : n ≤ l.length) :
  Calls Tryz.prog 321 #[.pointer (some ⟨p, 0, none⟩), .int .i64 n] w fun e w' => ∃ A, e = .returned (.tuple #[.slice A n n, .bool true]) ∧ Rd w' A (l.take n) ∧ IsRB S w' p (l.drop n) 0 ∧ Chg (At p) w w' := by
 have hw := rwhole_any p l 0 w hR.isR
 obtain ⟨A, c, hb, hr, hc, hm, hS⟩ := hR
 have h0 : w.cell? ⟨p, 0, none⟩ = some (.slice A l.length c) := by rw [cell_of_row _ _ _ _ _ _ hb]; rfl
 have f0 : w.frozen? ⟨p, 0, none⟩ = false := frozen_of_row _ _ _ _ _ hb
 have hne := rd_ne hb (fun x => by simp) hr
 have HB := Lh hb
 have HW := Lh hw
 clear hb hw
 unfold maxLen at hm
 have hd : decide ((n : Int) > l.length) = false := by simp; omega
 have hcl : ∀ (X : Option Addr) (d : Nat), (l.drop n ≠ [] → X = A.map (·.add n)) → l.length - n ≤ d → d ≤ maxLen →
   IsRB S (w.setCell ⟨p, 0, none⟩ (.slice X (l.length - n) d)) p (l.drop n) 0 ∧ Chg (At p) w (w.setCell ⟨p, 0, none⟩ (.slice X (l.length - n) d)) := by
  intro X d hX h1 h2
  obtain ⟨_, hg⟩ := take_close HB.out hr hn hc (by unfold maxLen; omega) X hX d h1 h2
  have hl : p < w.heap.size := (Array.getElem?_eq_some_iff.1 HB.out).1
  have hrd : Rd w X (l.drop n) := by
   by_cases h : l.drop n = []
   ·rw [h]; exact Rd.nil _ _
   ·rw [hX h]
    have h0 : 0 < l.length := by
     rcases Nat.eq_zero_or_pos l.length with h0 | h0
     ·exact absurd (List.drop_of_length_le (by omega)) h
     ·exact h0
    obtain ⟨b, o, rfl, _, _⟩ := hr.at_ h0
    simp only [Option.map_some, add_plain]
    exact hr.drop n
  have hXb : ∀ b o, X = some ⟨b, o, none⟩ → l.drop n ≠ [] → ∃ o', A = some ⟨b, o', none⟩ ∧ l ≠ [] := by
   intro b o e h
   rw [hX h] at e
   obtain ⟨a, ha, e'⟩ := Option.map_eq_some_iff.1 e
   have hl0 : l ≠ [] := by rintro rfl; simp at h
   obtain ⟨b', o', rfl, _, _⟩ := hr.at_ (List.length_pos_iff.2 hl0)
   injection ha with ha
   subst ha
   rw [add_plain] at e'
   injection e' with e1 e2
   subst e1
   exact ⟨_, rfl, hl0⟩
  refine ⟨⟨X, d, ?_, hrd.keep hg ?_, by rw [List.length_drop]; exact h1, h2, ?_⟩, hg⟩
  ·rw [heap_setCell_same _ _ _ _ _ _ HB.out, List.length_drop]; rfl
  ·intro b o e h
   obtain ⟨o', e', h'⟩ := hXb b o e h
   exact hne b o' e' h'
  ·intro b o e h
   obtain ⟨o', e', h'⟩ := hXb b o e h
   exact hS b o' e' h'
 have HCl := Lh hcl
 clear hcl hS
 go_enter Tryz.func321, Tryz.ntmps321
 go_wp2_with fail
 refine HW.out.mono ?_
 rintro e w' ⟨rfl, rfl⟩
 by_cases hnl : n < l.length
 ·have hcn : ¬ c = n := by omega
  go_wp2
  go_ret2
  have hcl := HCl.out (A.map (·.add n)) (c - n) (fun _ => rfl) (by omega) (by unfold maxLen; omega)
  exact ⟨A, rfl, (hr.take n).keep hcl.2 (fun b o e h => hne b o e (take_ne h)), hcl⟩
 ·go_wp2
  all_goals
   go_ret2
   refine ⟨A, rfl, (hr.take n).keep ?_ (fun b o e h => hne b o e (take_ne h)), HCl.out _ _ (fun h => absurd (List.drop_of_length_le (by omega)) h) (by omega) (by unfold maxLen; omega)⟩
   exact (Chg.refl (At p) _).setCell (p := ⟨p, 0, none⟩) (.inl rfl) _
theorem new_block {w W : World} {o : Obj} (hg : Chg Non (w.alloc o) W) : W.heap[w.heap.size]? = some o :=
 (hg.block _ (by simp) (fun e => e)).trans (heap_alloc_new _ _)
theorem fieldTag_ok (S p : Nat) (l : List UInt8) (w : World) (hR : IsRB S w p l 0) (hSw : S ≤ w.heap.size) (hn : 32 ≤ l.length) :
  Calls Tryz.prog 262 #[.pointer (some ⟨p, 0, none⟩), .int .i64 32, .func (.func 263) #[] #[]] w fun e w' => e = .returned (.agg (tagA (l.take 32))) ∧ IsRB S w' p (l.drop 32) 0 ∧ Chg (At p) w w' := by
 have hg0 : ∀ o o' : Obj, Chg Non w ((w.alloc o).alloc o') := fun o o' => ((Chg.refl _ _).alloc _).alloc _
 have HT := Lh (fun o o' => take_okB S p 32 l ((w.alloc o).alloc o') (hR.keep (hg0 o o') (fun e => e) (fun _ _ e => e)) hn)
 have hlp : p < w.heap.size := hR.lt
 have hl : (l.take 32).length = 32 := by rw [List.length_take]; omega
 obtain ⟨m, hm⟩ : ∃ m, l.take 32 = m := ⟨_, rfl⟩
 rw [hm] at HT hl ⊢
 have HL := Lh hl
 clear hm hl hR hg0
 go_enter Tryz.func262, Tryz.ntmps262
 go_wp2_with fail
 refine (HT.out _ _).mono ?_
 rintro e w1 ⟨A, rfl, hr, hR1, hg⟩
 go_wp2_with fail
 refine (Tag1_ok A m w1 hr HL.out).mono ?_
 rintro e w2 ⟨rfl, hg2⟩
 have hgA : Chg (At p) w w2 := (((((Chg.refl Non w).alloc _).alloc _).non_then hg).then_non hg2)
 have hb0 : w2.heap[w.heap.size]? = some (.cells (tagA zTag) 23 (0, 0)) := by
  rw [hg2.block _ (by have := hg.size; simp at this; omega) (fun e => e), hg.block _ (by simp; omega) (by unfold At; omega), Below.heap_alloc _ _ _ (by simp), heap_alloc_new]
  rfl
 have HB0 := Lh hb0
 have hz2 : w.heap.size < w2.heap.size := (Array.getElem?_eq_some_iff.1 hb0).1
 clear hb0 hr
 go_wp2_with (first
   | (refine sel none (.store 23 (.tmp 10) (.tmp 24)) ?_
      refine wpList_store_rowA rfl 23 (.tmp 10) (.tmp 24) rfl w2.heap.size (tagA m) rfl rfl 23 _ (heap_alloc_new _ _) (by rw [tagA_size _ HL.out]; exact info_tag) (by rw [tagA_size _ HL.out]; rfl) (tagA_one _) ?_
      intro W hgW hbW
      have HB := Lh hbW
      have HGW := Lh hgW
      have hb1 : W.heap[w.heap.size]? = some (.cells (tagA zTag) 23 (0, 0)) := by
        rw [hgW.block _ (by simp; omega) (by omega), Below.heap_alloc _ _ _ hz2]
        exact HB0.out
      have HB1 := Lh hb1
      clear hbW hgW hb1)
   | (refine sel none (.store 23 (.tmp 6) (.tmp 31)) ?_
      refine wpList_store_rowA rfl 23 (.tmp 6) (.tmp 31) rfl w.heap.size (tagA m) rfl rfl 23 _ HB1.out (by rw [tagA_size _ HL.out]; exact info_tag) (by rw [tagA_size _ HL.out]; rfl) (tagA_one _) ?_
      intro W2 hgW2 hbW2
      have HB2 := Lh hbW2
      have HGW2 := Lh hgW2
      clear hbW2 hgW2)
   | (refine sel (some 31) (.load 23 (.tmp 10)) ?_; refine wpList_load_tag rfl (.tmp 10) rfl w2.heap.size 0 rfl m (range_of_tag HB.out) HL.out ?_))
 have hgB : Chg (At p) w W2 := (((hgA.alloc _).then_new HGW.out (fun x e => by omega))).then_new HGW2.out (fun x e => by omega)
 have hR2 := fun o => (hR1.keep hg2 (fun e => e) (fun _ _ e => e)).keep ((Chg.refl Non w2).alloc o) (fun e => e) (fun _ _ e => e)
 have hR3 := (hR2 _).keep HGW.out (by omega) (fun b hb e => by omega)
 have hR4 := hR3.keep HGW2.out (by omega) (fun b hb e => by omega)
 exact bodyPost_ret (results_cell_row Tryz.results262 _ _ w.heap.size 23 _ (0, 0) _ rfl HB2.out Tryz.underlying23 rfl (by rw [tagA_size _ HL.out]; exact info_tag)) rfl ⟨rfl, hR4, hgB⟩
theorem field_zero {w w2 : World} {o : Obj} {p : Nat} (hlp : p < w.heap.size) (hg : Chg (At p) ((w.alloc (.cells (tagA zTag) 23)).alloc o) w2) :
  w2.heap[w.heap.size]? = some (.cells (tagA zTag) 23 (0, 0)) := by
 rw [hg.block _ (by simp; omega) (by unfold At; omega), Below.heap_alloc _ _ _ (by simp), heap_alloc_new]
theorem field_zero1 {w w2 : World} {o : Obj} {p : Nat} (hlp : p < w.heap.size) (hg : Chg (At p) ((w.alloc o).alloc (.cells (tagA zTag) 23)) w2) :
  w2.heap[w.heap.size + 1]? = some (.cells (tagA zTag) 23 (0, 0)) := by
 rw [hg.block _ (by simp) (by unfold At; omega), heap_alloc2_new]
theorem fieldTag_no (S p : Nat) (l l' : List UInt8) (er er' : Int) (w : World) (hR : IsRB S w p l er) (hSw : S ≤ w.heap.size)
  (ht : ∀ W, IsRB S W p l er → Calls Tryz.prog 321 #[.pointer (some ⟨p, 0, none⟩), .int .i64 32] W fun e w' => e = .returned (.tuple #[.slice none 0 0, .bool false]) ∧ IsRB S w' p l' er' ∧ Chg (At p) W w') :
  Calls Tryz.prog 262 #[.pointer (some ⟨p, 0, none⟩), .int .i64 32, .func (.func 263) #[] #[]] w fun e w' => e = .returned (.agg (tagA zTag)) ∧ IsRB S w' p l' er' ∧ Chg (At p) w w' := by
 have hg0 : ∀ o o' : Obj, Chg Non w ((w.alloc o).alloc o') := fun o o' => ((Chg.refl _ _).alloc _).alloc _
 have hlp : p < w.heap.size := hR.lt
 have HT := Lh (fun o o' => ht ((w.alloc o).alloc o') (hR.keep (hg0 o o') (fun e => e) (fun _ _ e => e)))
 clear hR hg0 ht
 go_enter Tryz.func262, Tryz.ntmps262
 go_wp2_with fail
 refine (HT.out _ _).mono ?_
 rintro e w2 ⟨rfl, hR1, hg⟩
 have HB0 := Lh (field_zero hlp hg)
 have HB1 := Lh (field_zero1 hlp hg)
 have hgA : Chg (At p) w w2 := ((((Chg.refl Non w).alloc _).alloc _).non_then hg)
 go_wp2_with (first
   | (refine sel (some 19) (.load 23 (.tmp 7)) ?_; refine wpList_load_tag rfl (.tmp 7) rfl (w.heap.size + 1) 0 rfl zTag (range_of_tag HB1.out) zTag_len ?_)
   | (refine sel none (.store 23 (.tmp 6) (.tmp 19)) ?_
      refine wpList_store_rowA rfl 23 (.tmp 6) (.tmp 19) rfl w.heap.size (tagA zTag) rfl rfl 23 _ HB0.out (by rw [tagA_size _ zTag_len]; exact info_tag) rfl (tagA_one _) ?_
      intro W2 hgW2 hbW2
      have HB2 := Lh hbW2
      have HGW2 := Lh hgW2
      clear hbW2 hgW2))
 have hgB : Chg (At p) w W2 := hgA.then_new HGW2.out (fun x e => by omega)
 have hR4 := hR1.keep HGW2.out (by omega) (fun b hb e => by omega)
 exact bodyPost_ret (results_cell_row Tryz.results262 _ _ w.heap.size 23 _ (0, 0) _ rfl HB2.out Tryz.underlying23 rfl (by rw [tagA_size _ zTag_len]; exact info_tag)) rfl ⟨rfl, hR4, hgB⟩
theorem fieldTag_any (S p : Nat) (l : List UInt8) (er : Int) (w : World) (hR : IsRB S w p l er) (hSw : S ≤ w.heap.size) :
  Calls Tryz.prog 262 #[.pointer (some ⟨p, 0, none⟩), .int .i64 32, .func (.func 263) #[] #[]] w fun e w' => e = .returned (.agg (tagA (rdTag l er).1)) ∧ IsRB S w' p (rdTag l er).2.1 (rdTag l er).2.2 ∧ Chg (At p) w w' := by
 unfold rdTag
 by_cases he : er = 0
 ·subst he
  by_cases hl : 32 ≤ l.length
  ·simp only [hl, if_true]
   exact fieldTag_ok S p l w hR hSw hl
  ·simp only [hl, if_true, if_false]
   refine fieldTag_no S p l [] 0 50 w hR hSw (fun W hR' => (take_short p 32 l W hR'.isR (by omega)).mono ?_)
   rintro e w' ⟨rfl, ⟨A, c, h1, h2, h3, h4⟩, hg'⟩
   exact ⟨rfl, ⟨A, c, h1, h2, h3, h4, fun _ _ _ h => absurd rfl h⟩, hg'⟩
 ·simp only [he, if_false]
  refine fieldTag_no S p l l er er w hR hSw (fun W hR' => (take_broken p 32 l er W hR'.isR he).mono ?_)
  rintro e w' ⟨rfl, rfl⟩
  exact ⟨rfl, hR', Chg.refl _ _⟩
theorem RTag_any (p : Nat) (l : List UInt8) (er : Int) (w : World) (hR : IsR w p l er) :
  Calls Tryz.prog 194 #[.pointer (some ⟨p, 0, none⟩)] w fun e w' => e = .returned (.agg (tagA (rdTag l er).1)) ∧ IsR w' p (rdTag l er).2.1 (rdTag l er).2.2 ∧ Chg (At p) w w' := by
 have hg0 : ∀ o : Obj, Chg Non w (w.alloc o) := fun o => ((Chg.refl _ _).alloc _)
 have hlp : p < w.heap.size := hR.below.lt
 have HT := Lh (fun o => fieldTag_any w.heap.size p l er (w.alloc o) (hR.below.keep (hg0 o) (fun e => e) (fun _ _ e => e)) (by simp))
 have HL := Lh (rdTag_len l er)
 obtain ⟨⟨x, l', er'⟩, hq⟩ : ∃ q, rdTag l er = q := ⟨_, rfl⟩
 rw [hq] at HT HL ⊢
 simp only at HT HL ⊢
 clear hR hg0 hq
 go_enter Tryz.func194, Tryz.ntmps194
 go_wp2_with fail
 refine (HT.out _).mono ?_
 rintro e w2 ⟨rfl, hR1, hg⟩
 have hb0 : w2.heap[w.heap.size]? = some (.cells (tagA zTag) 23 (0, 0)) := by
  rw [hg.block _ (by simp) (by unfold At; omega), heap_alloc_new]
  rfl
 have HB0 := Lh hb0
 have hgA : Chg (At p) w w2 := ((Chg.refl Non w).alloc _).non_then hg
 clear hb0
 go_wp2_with
  (refine sel none (.store 23 (.tmp 2) (.tmp 4)) ?_
   refine wpList_store_rowA rfl 23 (.tmp 2) (.tmp 4) rfl w.heap.size (tagA x) rfl rfl 23 _ HB0.out (by rw [tagA_size _ HL.out]; exact info_tag) (by rw [tagA_size _ HL.out]; rfl) (tagA_one _) ?_
   intro W2 hgW2 hbW2
   have HB2 := Lh hbW2
   have HGW2 := Lh hgW2
   clear hbW2 hgW2)
 have hgB : Chg (At p) w W2 := hgA.then_new HGW2.out (fun x e => by omega)
 have hR4 := hR1.keep HGW2.out (by omega) (fun b hb e => by omega)
 exact bodyPost_ret (results_cell_row Tryz.results194 _ _ w.heap.size 23 _ (0, 0) _ rfl HB2.out Tryz.underlying23 rfl (by rw [tagA_size _ HL.out]; exact info_tag)) rfl ⟨rfl, hR4.isR, hgB⟩
end
section

end
section
open Go.RowKit
theorem wInt_len (n : Int) : (wInt n).length = 8 := be_length _ _
theorem flat_le {α : Type} {w : α → List UInt8} {k : Nat} (l : List α) (h : ∀ a ∈ l, (w a).length ≤ k) : (l.flatMap w).length ≤ l.length * k := by
 induction l with
 | nil => simp
 | cons a l ih =>
  have h1 := h a (List.mem_cons_self ..)
  have h2 := ih (fun b hb => h b (List.mem_cons_of_mem _ hb))
  rw [List.flatMap_cons, List.length_append, List.length_cons, Nat.add_mul]
  omega
theorem wBy_len (m : List UInt8) : (wBy m).length = 4 + m.length := by unfold wBy; rw [List.length_append, be_length]
end
end Go.Proofs.YtajkajgifigmbaaGreat
