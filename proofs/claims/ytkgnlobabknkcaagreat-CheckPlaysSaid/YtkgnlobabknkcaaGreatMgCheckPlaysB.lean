/- CheckPlays, part 2 of 27: contracts of the functions that it reaches, and the laws that they need, merged and shortened (from my texts XOwnL, XValE, XValF, XClone, XFill, XFresh, XMay, XVmL). -/
import Derived.Test.YtkgnlobabknkcaaGreatMgCheckPlaysA
import Derived.Deep.AppendLies
import Derived.Maps.AppendAt
import Derived.Laws.CopyOwn
namespace Go.Proofs.YtkgnlobabknkcaaGreat
set_option linter.unusedVariables false
set_option linter.unusedSimpArgs false
set_option maxHeartbeats 8000000
set_option maxRecDepth 100000
section
open Go.RowKit
theorem addr_none (b o k : Nat) : (⟨b, o, none⟩ : Addr).add k = ⟨b, o + k, none⟩ := by
 unfold Addr.add
 split <;> simp_all
theorem flat_get {α : Type} {xss : List (List α)} {sz : Nat} (h : ∀ x ∈ xss, x.length = sz) {i j : Nat} {x : List α} {a : α} (hi : xss[i]? = some x) (hj : x[j]? = some a) : xss.flatten[i * sz + j]? = some a := by
 induction xss generalizing i with
 | nil => simp at hi
 | cons y t ih =>
  have hy := h y (List.mem_cons_self ..)
  cases i with
  | zero =>
   simp only [List.getElem?_cons_zero, Option.some.injEq] at hi
   subst hi
   rw [List.flatten_cons, Nat.zero_mul, Nat.zero_add, List.getElem?_append_left (List.getElem?_eq_some_iff.1 hj).1]
   exact hj
  | succ i =>
   rw [List.getElem?_cons_succ] at hi
   rw [List.flatten_cons, List.getElem?_append_right (by rw [hy, Nat.succ_mul]; omega), hy, show (i + 1) * sz + j - sz = i * sz + j by rw [Nat.succ_mul]; omega]
   exact ih (fun x hx => h x (List.mem_cons_of_mem _ hx)) hi
def OwnL {α : Type} (R : World → α → List Value → Prop) (B : Nat) (e : TypeId) (sz : Nat) (w : World) (v : Value) (l : List α) : Prop :=
 ∃ xss : List (List Value), w.ownsRow B e sz v l.length xss.flatten ∧ xss.length = l.length ∧ (∀ x ∈ xss, x.length = sz) ∧ ∀ (i : Nat) (a : α) (x : List Value), l[i]? = some a → xss[i]? = some x → R w a x
namespace OwnL
variable {α : Type} {R : World → α → List Value → Prop} {B : Nat} {e : TypeId} {sz : Nat} {w w' : World} {v : Value} {l : List α}
theorem nil (R : World → α → List Value → Prop) (B : Nat) (e : TypeId) (sz : Nat) (w : World) : OwnL R B e sz w (.slice none 0 0) [] := ⟨[], World.ownsRow_nil _ _ _ _, rfl, (fun x h => by cases h), (fun i a x h => by simp at h)⟩
theorem keep {S : Nat → Prop} (h : OwnL R B e sz w v l) (hg : Chg S w w') (hn : ∀ g, v.ownBlock = some g → ¬ S g) (hR : ∀ a vs, R w a vs → R w' a vs) : OwnL R B e sz w' v l := by
 obtain ⟨xss, ⟨h1, h2⟩, h3, h4, h5⟩ := h
 refine ⟨xss, ⟨h1, ?_⟩, h3, h4, fun i a x ha hx => hR _ _ (h5 i a x ha hx)⟩
 rcases h2 with h0 | ⟨g, cap, cur, rfl, hB, hb, r1⟩
 ·exact .inl h0
 ·exact .inr ⟨g, cap, cur, rfl, hB, (hg.block g (Array.getElem?_eq_some_iff.1 hb).1 (hn g rfl)).trans hb, r1⟩
theorem non (h : OwnL R B e sz w v l) (hg : Chg Non w w') (hR : ∀ a vs, R w a vs → R w' a vs) : OwnL R B e sz w' v l := h.keep hg (fun _ _ e => e) hR
theorem ge (h : OwnL R B e sz w v l) {g : Nat} (hg : v.ownBlock = some g) : B ≤ g ∧ g < w.heap.size := by
 obtain ⟨xss, ⟨h1, h2⟩, _⟩ := h
 rcases h2 with ⟨rfl, _⟩ | ⟨g2, cap, cur, rfl, hB, hb, _⟩
 ·simp [Value.ownBlock] at hg
 ·obtain rfl : g2 = g := by simpa [Value.ownBlock] using hg
  exact ⟨hB, blk_lt hb⟩
theorem rd (h : OwnL R B e sz w v l) : ∃ A c, v = .slice A l.length c ∧ l.length ≤ c ∧ c ≤ maxLen ∧ RdL R (fun b => v.ownBlock = some b) sz w A l := by
 obtain ⟨xss, hown, h3, h4, h5⟩ := h
 rcases hown.2 with ⟨rfl, h0⟩ | ⟨g, cap, cur, rfl, hB, hb, r1, r2, r3, r4⟩
 ·have : l = [] := List.eq_nil_of_length_eq_zero h0
  subst this
  exact ⟨none, 0, rfl, Nat.le_refl _, by simp, RdL.nil _ _ _ _ _⟩
 ·refine ⟨_, cap, rfl, r1, r2, fun i a ha => ?_⟩
  have hil := (List.getElem?_eq_some_iff.1 ha).1
  obtain ⟨x, hx⟩ : ∃ x, xss[i]? = some x := ⟨_, List.getElem?_eq_getElem (by omega)⟩
  refine ⟨g, 0, x, rfl, rfl, h4 x (List.mem_of_getElem? hx), fun j v hv => ?_, h5 i a x ha hx⟩
  have hf := flat_get h4 hx hv
  rw [cell_of_row _ _ _ _ _ _ hb, Nat.zero_add]
  rw [← r4] at hf
  have hlt : i * sz + j < l.length * sz := by
   have := (List.getElem?_eq_some_iff.1 hf).1
   rw [List.length_take] at this
   omega
  rw [List.getElem?_take_of_lt hlt, Array.getElem?_toList] at hf
  exact hf
end OwnL
theorem wpList_snocL {P : Program} {α : Type} (R : World → α → List Value → Prop) {ops : Array Oper} {rest : List Oper} {o : Oper} {a : Act} {w : World} {Q : Exit → Act → World → Prop} (hgd : o.guard = none) (s x : Operand) (t : TypeId)
  (ho : o.op = .call { callee := .builtin .append, args := #[s, x], argTypes := #[t, t] }) (B : Nat) (e : TypeId) (z : Value) (sz bytes : Nat) (ht : P.underlying t = some (.slice e)) (hi : (P.info? e).map (fun i => (i.zero, i.size, i.bytes)) = some (some z, sz, bytes))
  (hzs : z.cells.size = sz) (hsz : 0 < sz) (v : Value) (l : List α) (hs : a.eval s = v) (hown : OwnL R B e sz w v l) (b : Nat) (k : α) (cs : Array Value) (tb : TypeId) (hx : a.eval x = .slice (some ⟨b, 0, none⟩) 1 1) (hb : w.heap[b]? = some (.cells cs tb (0, 0))) (hcs : cs.size = sz) (h1 : cs.all (·.oneCell') = true)
  (hl : l.length ≤ 1000000) (hby : bytes ≤ 100000) (hB : B ≤ w.heap.size) (hR : ∀ w' a vs, Chg (fun k => v.ownBlock = some k) w w' → R w a vs → R w' a vs) (ha : R w k cs.toList)
  (h : ∀ v2 w2, OwnL R B e sz w2 v2 (l ++ [k]) → Chg (fun k => v.ownBlock = some k) w w2 → (∀ g, v2.ownBlock = some g → v.ownBlock = some g ∨ g = w.heap.size) → wpList P ops Q rest (a.put o.dst v2) w2) : wpList P ops Q (o :: rest) a w := by
 obtain ⟨i0, hi0, hz0, hs0, hb0⟩ := info_parts hi
 have hown' := hown
 obtain ⟨xss, hro, h3, h4, h5⟩ := hown
 refine wpList_append_lies w hgd s x t ho B e i0 z sz bytes ht hi0 hz0 hs0 hb0 hzs hsz v l.length xss.flatten hs hro ⟨b, 0, none⟩ 1 1 cs.toList hx (by simp [hcs]) ?_ ?_ (by omega) (by unfold maxLen; omega) (Nat.le_trans (Nat.mul_le_mul (show l.length + 1 ≤ 1000001 by omega) hby) (by omega)) hB _ rfl ?_
 ·intro j u hu
  rw [addr_none, Nat.zero_add, cell_of_row _ _ _ _ _ _ hb]
  simpa using hu
 ·intro u hu
  have := Array.all_eq_true.1 h1
  obtain ⟨i, hi⟩ := List.getElem?_of_mem hu
  rw [Array.getElem?_toList] at hi
  obtain ⟨hlt, e⟩ := Array.getElem?_eq_some_iff.1 hi
  have := this i hlt
  rw [e] at this
  exact this
 ·intro g cap w2 h2 hgrow hat hlt
  have hg : Chg (fun k => v.ownBlock = some k) w w2 := (Chg.refl (fun k => v.ownBlock = some k) w).grown hgrow fun g' hg' => .inl hg'
  refine h _ _ ?_ hg (fun g' e => by
    have : g = g' := by simpa [Value.ownBlock] using e
    subst this
    exact hat)
  refine ⟨xss ++ [cs.toList], ?_, by simp [h3], ?_, ?_⟩
  ·rw [List.length_append, List.flatten_append]
   simpa using h2
  ·intro x hx
   rcases List.mem_append.1 hx with hx | hx
   ·exact h4 x hx
   ·obtain rfl := List.mem_singleton.1 hx
    rw [Array.length_toList, hcs]
  ·intro i c x hc hx
   by_cases hil : i < l.length
   ·rw [List.getElem?_append_left hil] at hc
    rw [List.getElem?_append_left (by omega)] at hx
    exact hR _ _ _ hg (h5 i c x hc hx)
   ·have hil2 : i < (l ++ [k]).length := (List.getElem?_eq_some_iff.1 hc).1
    obtain rfl : i = l.length := by simp at hil2; omega
    rw [List.getElem?_append_right (Nat.le_refl _), Nat.sub_self] at hc
    rw [List.getElem?_append_right (by omega), h3, Nat.sub_self] at hx
    simp only [List.getElem?_cons_zero, Option.some.injEq] at hc hx
    subst hc hx
    exact hR _ _ _ hg ha
theorem wpList_cloneL {P : Program} {α : Type} (R : World → α → List Value → Prop) {ops : Array Oper} {rest : List Oper} {o : Oper} {a : Act} {w : World} {Q : Exit → Act → World → Prop} (hgd : o.guard = none) (s x : Operand) (t : TypeId)
  (ho : o.op = .call { callee := .builtin .append, args := #[s, x], argTypes := #[t, t] }) (e : TypeId) (z : Value) (sz bytes : Nat) (ht : P.underlying t = some (.slice e)) (hi : (P.info? e).map (fun i => (i.zero, i.size, i.bytes)) = some (some z, sz, bytes))
  (hzs : z.cells.size = sz) (hsz : 0 < sz) (B g0 : Nat) (hs : a.eval s = .slice (some ⟨g0, 0, none⟩) 0 0) (hg0 : w.heap[g0]? = some (.cells #[] e (0, 0))) (hB : B ≤ g0) (I : Nat → Prop) (b o2 : Nat) (l : List α) (c : Nat) (hx : a.eval x = .slice (some ⟨b, o2, none⟩) l.length c) (hl0 : l ≠ []) (hr : RdL R I sz w (some ⟨b, o2, none⟩) l) (hone : ∀ a vs, R w a vs → ∀ u ∈ vs, u.oneCell' = true)
  (hl : l.length ≤ 1000000) (hby : bytes ≤ 100000) (hR : ∀ w' a vs, Chg (fun k => k = g0) w w' → R w a vs → R w' a vs)
  (h : ∀ v2 w2, OwnL R B e sz w2 v2 l → Chg (fun k => k = g0) w w2 → (∀ g, v2.ownBlock = some g → g = g0 ∨ g = w.heap.size) → wpList P ops Q rest (a.put o.dst v2) w2) : wpList P ops Q (o :: rest) a w := by
 obtain ⟨i0, hi0, hz0, hs0, hb0⟩ := info_parts hi
 have hpos : 0 < l.length := List.length_pos_iff.2 hl0
 obtain ⟨b', o', e', hIb, hat⟩ := hr.at_ hpos
 injection e' with e'
 injection e' with e1 e2 _
 subst e1 e2
 have hch : ∀ i, i < l.length → ∃ vs : List Value, vs.length = sz ∧ w.rangeAt b (o2 + i * sz) vs ∧ ∃ a, l[i]? = some a ∧ R w a vs := fun i hi => by
  obtain ⟨vs, h1, h2, h3⟩ := hat i l[i] (List.getElem?_eq_getElem hi)
  exact ⟨vs, h1, h2, l[i], List.getElem?_eq_getElem hi, h3⟩
 obtain ⟨xss, hxl, hxp⟩ : ∃ xss : List (List Value), xss.length = l.length ∧ ∀ (i : Nat) (x : List Value), xss[i]? = some x → x.length = sz ∧ w.rangeAt b (o2 + i * sz) x ∧ ∃ a, l[i]? = some a ∧ R w a x := by
  clear h hr hat
  have key : ∀ n, n ≤ l.length → ∃ xss : List (List Value), xss.length = n ∧ ∀ (i : Nat) (x : List Value), xss[i]? = some x → x.length = sz ∧ w.rangeAt b (o2 + i * sz) x ∧ ∃ a, l[i]? = some a ∧ R w a x := by
   intro n
   induction n with
   | zero => exact fun _ => ⟨[], rfl, fun i x h => by simp at h⟩
   | succ n ih =>
    intro hn
    obtain ⟨xs, h1, h2⟩ := ih (by omega)
    obtain ⟨vs, hv1, hv2, hv3⟩ := hch n (by omega)
    refine ⟨xs ++ [vs], by simp [h1], fun i x hx => ?_⟩
    by_cases hi : i < n
    ·rw [List.getElem?_append_left (by omega)] at hx
     exact h2 i x hx
    ·have := (List.getElem?_eq_some_iff.1 hx).1
     obtain rfl : i = n := by simp [h1] at this; omega
     rw [List.getElem?_append_right (by omega), h1, Nat.sub_self] at hx
     simp only [List.getElem?_cons_zero, Option.some.injEq] at hx
     subst hx
     exact ⟨hv1, hv2, hv3⟩
  exact key _ (Nat.le_refl _)
 have hall : ∀ x ∈ xss, x.length = sz := fun x hx => by
  obtain ⟨i, hi⟩ := List.getElem?_of_mem hx
  exact (hxp i x hi).1
 have hfl : xss.flatten.length = l.length * sz := by
  rw [← hxl]
  clear hxp hxl h hr hat hch
  induction xss with
  | nil => simp
  | cons y t ih =>
   rw [List.flatten_cons, List.length_append, hall y (List.mem_cons_self ..), ih (fun x hx => hall x (List.mem_cons_of_mem _ hx)), List.length_cons, Nat.succ_mul]
   omega
 have hown : w.ownsRow B e sz (.slice (some ⟨g0, 0, none⟩) 0 0) 0 [] := ⟨by simp, .inr ⟨g0, 0, #[], rfl, hB, hg0, Nat.le_refl _, by simp, by simp, by simp⟩⟩
 refine wpList_append_lies w hgd s x t ho B e i0 z sz bytes ht hi0 hz0 hs0 hb0 hzs hsz _ 0 [] hs hown ⟨b, o2, none⟩ l.length c xss.flatten hx hfl ?_ ?_ hpos (by unfold maxLen; omega) (by rw [Nat.zero_add]; exact Nat.le_trans (Nat.mul_le_mul hl hby) (by omega)) (by have := blk_lt hg0; omega) _ rfl ?_
 ·intro j u hu
  have hjl : j < l.length * sz := by rw [← hfl]; exact (List.getElem?_eq_some_iff.1 hu).1
  have hdm : j = j / sz * sz + j % sz := by rw [Nat.mul_comm]; exact (Nat.div_add_mod j sz).symm
  have hdl : j / sz < l.length := (Nat.div_lt_iff_lt_mul hsz).2 hjl
  obtain ⟨x, hx⟩ : ∃ x, xss[j / sz]? = some x := ⟨_, List.getElem?_eq_getElem (by omega)⟩
  obtain ⟨q1, q2, _⟩ := hxp _ _ hx
  obtain ⟨u', hu'⟩ : ∃ u', x[j % sz]? = some u' := ⟨_, List.getElem?_eq_getElem (by rw [q1]; exact Nat.mod_lt _ hsz)⟩
  have := flat_get hall hx hu'
  rw [← hdm, hu] at this
  injection this with this
  subst this
  have hc := q2 _ _ hu'
  rw [addr_none]
  have he : o2 + j / sz * sz + j % sz = o2 + j := by omega
  rw [he] at hc
  exact hc
 ·intro u hu
  obtain ⟨x, hx, hux⟩ := List.mem_flatten.1 hu
  obtain ⟨i, hi⟩ := List.getElem?_of_mem hx
  obtain ⟨_, _, a', _, hRa⟩ := hxp i x hi
  exact hone a' x hRa u hux
 ·intro g cap w2 h2 hgrow hat2 hlt
  have hg : Chg (fun k => k = g0) w w2 := (Chg.refl (fun k => k = g0) w).grown hgrow fun g' hg' => .inl (by simpa [Value.ownBlock, eq_comm] using hg')
  refine h _ _ ⟨xss, by simpa using h2, hxl, hall, fun i c x hc hx => ?_⟩ hg (fun g' e => by
    have : g = g' := by simpa [Value.ownBlock] using e
    subst this
    rcases hat2 with e | e
    · exact .inl (by simpa [Value.ownBlock, eq_comm] using e)
    · exact .inr e)
  obtain ⟨_, _, c', hc', hRc⟩ := hxp i x hx
  rw [hc] at hc'
  injection hc' with hc'
  subst hc'
  exact hR _ _ _ hg hRc
end
section
open Go.RowKit
end
section
open Go.RowKit
end
section
open Go.RowKit
theorem wpList_clone0 {P : Program} {α : Type} (R : World → α → List Value → Prop) {ops : Array Oper} {rest : List Oper} {o : Oper} {a : Act} {w : World} {Q : Exit → Act → World → Prop} (hgd : o.guard = none) (s x : Operand) (t : TypeId)
  (ho : o.op = .call { callee := .builtin .append, args := #[s, x], argTypes := #[t, t] }) (e : TypeId) (z : Value) (sz bytes : Nat) (ht : P.underlying t = some (.slice e)) (hi : (P.info? e).map (fun i => (i.zero, i.size, i.bytes)) = some (some z, sz, bytes))
  (hzs : z.cells.size = sz) (hsz : 0 < sz) (B g0 : Nat) (hs : a.eval s = .slice (some ⟨g0, 0, none⟩) 0 0) (hg0 : w.heap[g0]? = some (.cells #[] e (0, 0))) (hB : B ≤ g0) (ad : Addr) (c : Nat) (hx : a.eval x = .slice (some ad) 0 c)
  (h : ∀ v2 w2, OwnL R B e sz w2 v2 ([] : List α) → Chg (fun k => k = g0) w w2 → (∀ g, v2.ownBlock = some g → g = g0 ∨ g = w.heap.size) → wpList P ops Q rest (a.put o.dst v2) w2) : wpList P ops Q (o :: rest) a w := by
 obtain ⟨i0, hi0, hz0, hs0, hb0⟩ := info_parts hi
 have hown : w.ownsRow B e sz (.slice (some ⟨g0, 0, none⟩) 0 0) 0 [] := ⟨by simp, .inr ⟨g0, 0, #[], rfl, hB, hg0, Nat.le_refl _, by simp, by simp, by simp⟩⟩
 obtain ⟨v', w', h1, h2, h3, _, h5⟩ := run_append_own_at (P := P) w B t o.type e i0 z sz bytes ht hi0 hz0 hs0 hb0 hzs hsz _ 0 [] hown ad 0 c [] (by simp) (by simp) (by simp) (by unfold maxLen; omega) (by omega) (by have := blk_lt hg0; omega)
 refine wpList_plain hgd fun K hK => ?_
 unfold Oper.wp execOp
 simp only [ho, resolve, invoke, builtin, Sem.run_bind, Sem.run_pure, Result.andThen_ok, List.map_toArray, List.map_cons, List.map_nil, hs, hx, h1]
 refine hK _ _ (h v' w' ⟨[], by simpa using h2, rfl, (fun x h => by cases h), (fun i a x h => by simp at h)⟩ ((Chg.refl (fun k => k = g0) w).grown h3 fun g' hg' => .inl (by simpa [Value.ownBlock, eq_comm] using hg')) (fun g e => ?_))
 rcases h5 with h5 | h5
 ·rw [h5] at e
  exact .inl (by simpa [Value.ownBlock, eq_comm] using e)
 ·rw [h5] at e
  exact .inr (by simpa [eq_comm] using e)
def CloneP {α : Type} (R : World → α → List Value → Prop) (e : TypeId) (sz : Nat) (l : List α) (w : World) (en : Ending) (w' : World) : Prop := ∃ v, en = .returned v ∧ OwnL R w.heap.size e sz w' v l ∧ Chg Non w w'
theorem info_clPt : (Tryz.prog.info? 104).map (fun i => (i.zero, i.size, i.bytes)) = some (some (.agg #[.int .i64 0, .int .i64 0, .bool false, .int .u32 0, .int .u32 0, .int .u32 0, .int .u32 0, .int .u32 0, .int .u32 0, .int .u32 0, .int .u32 0, .int .u32 0, .int .u8 0, .slice none 0 0]), 14, 88) := by kernel_rfl
theorem eqlnil_Pt (B : Option Addr) (n c : Nat) (W : World) : (binOp .eql 22 (.slice B n c) (.slice none 0 0)).run Tryz.prog W = .ok (.bool B.isNone) W := by
 simp only [binOp]
 simp [run_equal_slice_nil W _ _ B n c Tryz.underlying22]
theorem clonePt {α : Type} (R : World → α → List Value → Prop) (I : Nat → Prop) (hm : ∀ S W W' a vs, Chg S W W' → (∀ b, b < W.heap.size → I b → ¬ S b) → R W a vs → R W' a vs) (hone : ∀ W a vs, R W a vs → ∀ u ∈ vs, u.oneCell' = true) (A : Option Addr) (l : List α) (c : Nat) (w : World)
  (hI : ∀ b, I b → b < w.heap.size) (hr : RdL R I 14 w A l) (hl : l.length ≤ 1000000) :
  Calls Tryz.prog 183 #[.slice A l.length c] w (CloneP R 104 14 l w) := by
 have HR := Lh hr
 have hnil : ∀ (B : Option Addr) (n c : Nat) (W : World), (binOp .eql 22 (.slice B n c) (.slice none 0 0)).run Tryz.prog W = .ok (.bool B.isNone) W := fun B n c W => eqlnil_Pt B n c W
 cases A with
 | none =>
  have hl0 : l = [] := by
   cases l with
   | nil => rfl
   | cons x r => obtain ⟨b, o, vs, e, _⟩ := hr 0 x rfl; cases e
  subst hl0
  clear hr
  go_enter Tryz.func183, Tryz.ntmps183
  go_wp2_with fail
  go_ret
  exact ⟨_, rfl, OwnL.nil _ _ _ _ _, Chg.refl _ _⟩
 | some ad =>
  clear hr
  go_enter Tryz.func183, Tryz.ntmps183
  go_wp2_with (refine sel (some 7) (.call _) ?_; refine Vm_stop ?_)
  refine HoleV.mk ?_
  by_cases hl0 : l = []
  ·subst hl0
   refine wpList_clone0 R rfl (.tmp 5) (.tmp 6) 22 rfl 104 (.agg #[.int .i64 0, .int .i64 0, .bool false, .int .u32 0, .int .u32 0, .int .u32 0, .int .u32 0, .int .u32 0, .int .u32 0, .int .u32 0, .int .u32 0, .int .u32 0, .int .u8 0, .slice none 0 0]) 14 88 Tryz.underlying22 info_clPt rfl (by omega) w.heap.size w.heap.size rfl (blk_new _ _) (Nat.le_refl _) ad c rfl ?_
   intro v2 w2 ho hg hv
   have HO := Lh ho
   have HG := Lh (((Chg.refl Non w).alloc _).then_new hg (fun x hx => by omega))
   clear ho hg hv
   go_wp2_with fail
   go_ret
   exact ⟨_, rfl, HO.out, HG.out⟩
  ·obtain ⟨b, o2, e, hIb, _⟩ := HR.out.at_ (List.length_pos_iff.2 hl0)
   injection e with e
   subst e
   refine wpList_cloneL R rfl (.tmp 5) (.tmp 6) 22 rfl 104 (.agg #[.int .i64 0, .int .i64 0, .bool false, .int .u32 0, .int .u32 0, .int .u32 0, .int .u32 0, .int .u32 0, .int .u32 0, .int .u32 0, .int .u32 0, .int .u32 0, .int .u8 0, .slice none 0 0]) 14 88 Tryz.underlying22 info_clPt rfl (by omega) w.heap.size w.heap.size rfl (blk_new _ _) (Nat.le_refl _) I b o2 l c rfl hl0 (HR.out.non ((Chg.refl Non _).alloc _) (fun a vs h => hm _ _ _ _ _ ((Chg.refl Non _).alloc _) (fun _ _ _ e => e) h)) (hone _) hl (by omega) ?_ ?_
   ·intro w' a vs hg h
    exact hm _ _ _ _ _ hg (fun b _ hb e => by have := hI b hb; omega) h
   intro v2 w2 ho hg hv
   have HO := Lh ho
   have HG := Lh (((Chg.refl Non w).alloc _).then_new hg (fun x hx => by omega))
   clear ho hg hv
   go_wp2_with fail
   go_ret
   exact ⟨_, rfl, HO.out, HG.out⟩
theorem info_clQu : (Tryz.prog.info? 110).map (fun i => (i.zero, i.size, i.bytes)) = some (some (.agg #[.int .i64 0, .int .i64 0, .int .i64 0, .int .i64 0, .int .i64 0, .slice none 0 0]), 6, 64) := by kernel_rfl
theorem eqlnil_Qu (B : Option Addr) (n c : Nat) (W : World) : (binOp .eql 23 (.slice B n c) (.slice none 0 0)).run Tryz.prog W = .ok (.bool B.isNone) W := by
 simp only [binOp]
 simp [run_equal_slice_nil W _ _ B n c Tryz.underlying23]
theorem cloneQu {α : Type} (R : World → α → List Value → Prop) (I : Nat → Prop) (hm : ∀ S W W' a vs, Chg S W W' → (∀ b, b < W.heap.size → I b → ¬ S b) → R W a vs → R W' a vs) (hone : ∀ W a vs, R W a vs → ∀ u ∈ vs, u.oneCell' = true) (A : Option Addr) (l : List α) (c : Nat) (w : World)
  (hI : ∀ b, I b → b < w.heap.size) (hr : RdL R I 6 w A l) (hl : l.length ≤ 1000000) :
  Calls Tryz.prog 185 #[.slice A l.length c] w (CloneP R 110 6 l w) := by
 have HR := Lh hr
 have hnil : ∀ (B : Option Addr) (n c : Nat) (W : World), (binOp .eql 23 (.slice B n c) (.slice none 0 0)).run Tryz.prog W = .ok (.bool B.isNone) W := fun B n c W => eqlnil_Qu B n c W
 cases A with
 | none =>
  have hl0 : l = [] := by
   cases l with
   | nil => rfl
   | cons x r => obtain ⟨b, o, vs, e, _⟩ := hr 0 x rfl; cases e
  subst hl0
  clear hr
  go_enter Tryz.func185, Tryz.ntmps185
  go_wp2_with fail
  go_ret
  exact ⟨_, rfl, OwnL.nil _ _ _ _ _, Chg.refl _ _⟩
 | some ad =>
  clear hr
  go_enter Tryz.func185, Tryz.ntmps185
  go_wp2_with (refine sel (some 7) (.call _) ?_; refine Vm_stop ?_)
  refine HoleV.mk ?_
  by_cases hl0 : l = []
  ·subst hl0
   refine wpList_clone0 R rfl (.tmp 5) (.tmp 6) 23 rfl 110 (.agg #[.int .i64 0, .int .i64 0, .int .i64 0, .int .i64 0, .int .i64 0, .slice none 0 0]) 6 64 Tryz.underlying23 info_clQu rfl (by omega) w.heap.size w.heap.size rfl (blk_new _ _) (Nat.le_refl _) ad c rfl ?_
   intro v2 w2 ho hg hv
   have HO := Lh ho
   have HG := Lh (((Chg.refl Non w).alloc _).then_new hg (fun x hx => by omega))
   clear ho hg hv
   go_wp2_with fail
   go_ret
   exact ⟨_, rfl, HO.out, HG.out⟩
  ·obtain ⟨b, o2, e, hIb, _⟩ := HR.out.at_ (List.length_pos_iff.2 hl0)
   injection e with e
   subst e
   refine wpList_cloneL R rfl (.tmp 5) (.tmp 6) 23 rfl 110 (.agg #[.int .i64 0, .int .i64 0, .int .i64 0, .int .i64 0, .int .i64 0, .slice none 0 0]) 6 64 Tryz.underlying23 info_clQu rfl (by omega) w.heap.size w.heap.size rfl (blk_new _ _) (Nat.le_refl _) I b o2 l c rfl hl0 (HR.out.non ((Chg.refl Non _).alloc _) (fun a vs h => hm _ _ _ _ _ ((Chg.refl Non _).alloc _) (fun _ _ _ e => e) h)) (hone _) hl (by omega) ?_ ?_
   ·intro w' a vs hg h
    exact hm _ _ _ _ _ hg (fun b _ hb e => by have := hI b hb; omega) h
   intro v2 w2 ho hg hv
   have HO := Lh ho
   have HG := Lh (((Chg.refl Non w).alloc _).then_new hg (fun x hx => by omega))
   clear ho hg hv
   go_wp2_with fail
   go_ret
   exact ⟨_, rfl, HO.out, HG.out⟩
theorem info_clBy : (Tryz.prog.info? 29).map (fun i => (i.zero, i.size, i.bytes)) = some (some (.slice none 0 0), 1, 24) := by kernel_rfl
theorem eqlnil_By (B : Option Addr) (n c : Nat) (W : World) : (binOp .eql 108 (.slice B n c) (.slice none 0 0)).run Tryz.prog W = .ok (.bool B.isNone) W := by
 simp only [binOp]
 simp [run_equal_slice_nil W _ _ B n c Tryz.underlying108]
theorem cloneBy {α : Type} (R : World → α → List Value → Prop) (I : Nat → Prop) (hm : ∀ S W W' a vs, Chg S W W' → (∀ b, b < W.heap.size → I b → ¬ S b) → R W a vs → R W' a vs) (hone : ∀ W a vs, R W a vs → ∀ u ∈ vs, u.oneCell' = true) (A : Option Addr) (l : List α) (c : Nat) (w : World)
  (hI : ∀ b, I b → b < w.heap.size) (hr : RdL R I 1 w A l) (hl : l.length ≤ 1000000) :
  Calls Tryz.prog 186 #[.slice A l.length c] w (CloneP R 29 1 l w) := by
 have HR := Lh hr
 have hnil : ∀ (B : Option Addr) (n c : Nat) (W : World), (binOp .eql 108 (.slice B n c) (.slice none 0 0)).run Tryz.prog W = .ok (.bool B.isNone) W := fun B n c W => eqlnil_By B n c W
 cases A with
 | none =>
  have hl0 : l = [] := by
   cases l with
   | nil => rfl
   | cons x r => obtain ⟨b, o, vs, e, _⟩ := hr 0 x rfl; cases e
  subst hl0
  clear hr
  go_enter Tryz.func186, Tryz.ntmps186
  go_wp2_with fail
  go_ret
  exact ⟨_, rfl, OwnL.nil _ _ _ _ _, Chg.refl _ _⟩
 | some ad =>
  clear hr
  go_enter Tryz.func186, Tryz.ntmps186
  go_wp2_with (refine sel (some 7) (.call _) ?_; refine Vm_stop ?_)
  refine HoleV.mk ?_
  by_cases hl0 : l = []
  ·subst hl0
   refine wpList_clone0 R rfl (.tmp 5) (.tmp 6) 108 rfl 29 (.slice none 0 0) 1 24 Tryz.underlying108 info_clBy rfl (by omega) w.heap.size w.heap.size rfl (blk_new _ _) (Nat.le_refl _) ad c rfl ?_
   intro v2 w2 ho hg hv
   have HO := Lh ho
   have HG := Lh (((Chg.refl Non w).alloc _).then_new hg (fun x hx => by omega))
   clear ho hg hv
   go_wp2_with fail
   go_ret
   exact ⟨_, rfl, HO.out, HG.out⟩
  ·obtain ⟨b, o2, e, hIb, _⟩ := HR.out.at_ (List.length_pos_iff.2 hl0)
   injection e with e
   subst e
   refine wpList_cloneL R rfl (.tmp 5) (.tmp 6) 108 rfl 29 (.slice none 0 0) 1 24 Tryz.underlying108 info_clBy rfl (by omega) w.heap.size w.heap.size rfl (blk_new _ _) (Nat.le_refl _) I b o2 l c rfl hl0 (HR.out.non ((Chg.refl Non _).alloc _) (fun a vs h => hm _ _ _ _ _ ((Chg.refl Non _).alloc _) (fun _ _ _ e => e) h)) (hone _) hl (by omega) ?_ ?_
   ·intro w' a vs hg h
    exact hm _ _ _ _ _ hg (fun b _ hb e => by have := hI b hb; omega) h
   intro v2 w2 ho hg hv
   have HO := Lh ho
   have HG := Lh (((Chg.refl Non w).alloc _).then_new hg (fun x hx => by omega))
   clear ho hg hv
   go_wp2_with fail
   go_ret
   exact ⟨_, rfl, HO.out, HG.out⟩
end
section
open Go.RowKit
end
section
open Go.RowKit
theorem BytesV.bound {I : Nat → Prop} {w : World} {l : List UInt8} {v : Value} (h : BytesV I w l v) : BytesV (fun b => I b ∧ b < w.heap.size) w l v := by
 obtain ⟨A, c, h1, h2, h3, h4, h5⟩ := h
 refine ⟨A, c, h1, h2, h3, h4, fun b o e hl => ⟨h5 b o e hl, ?_⟩⟩
 subst e
 obtain ⟨b', o', e', hlt, _⟩ := h4.at_ (List.length_pos_iff.2 hl)
 injection e' with e'
 injection e' with e' _ _
 subst e'
 exact hlt
theorem ptV.bound {I : Nat → Prop} {w : World} {a : Pt} {vs : List Value} (h : ptV I w a vs) : ptV (fun b => I b ∧ b < w.heap.size) w a vs := by
 obtain ⟨m, h1, h2, h3⟩ := h
 exact ⟨m, h1, h2.bound, h3⟩
theorem msgV.bound {I : Nat → Prop} {w : World} {a : List UInt8} {vs : List Value} (h : msgV I w a vs) : msgV (fun b => I b ∧ b < w.heap.size) w a vs := by
 obtain ⟨m, h1, h2, h3⟩ := h
 exact ⟨m, h1, h2.bound, h3⟩
theorem rng_lt {w : World} {b o : Nat} {vs : List Value} (h : w.rangeAt b o vs) (h0 : 0 < vs.length) : b < w.heap.size := lt_of_cell (h 0 _ (List.getElem?_eq_getElem h0))
theorem SlV.bound {α : Type} {R R' : World → α → List Value → Prop} {I : Nat → Prop} {sz : Nat} {w : World} {l : List α} {v : Value} (hsz : 0 < sz) (h : SlV R I sz w l v) (hR : ∀ a vs, a ∈ l → R w a vs → R' w a vs) : SlV R' (fun b => I b ∧ b < w.heap.size) sz w l v := by
 obtain ⟨A, c, h1, h2, h3, h4⟩ := h
 refine ⟨A, c, h1, h2, h3, fun i a ha => ?_⟩
 obtain ⟨b, o, vs, e, hb, hl, hc, hr⟩ := h4 i a ha
 exact ⟨b, o, vs, e, ⟨hb, rng_lt hc (by omega)⟩, hl, hc, hR a vs (List.mem_of_getElem? ha) hr⟩
theorem quV.bound {I : Nat → Prop} {w : World} {a : Qu} {vs : List Value} (h : quV I w a vs) : quV (fun b => I b ∧ b < w.heap.size) w a vs := by
 obtain ⟨m, h1, h2, h3⟩ := h
 exact ⟨m, h1, h2.bound (by omega) (fun _ _ _ h => h.bound), h3⟩
theorem OwnL.mono {α : Type} {R R' : World → α → List Value → Prop} {B : Nat} {e : TypeId} {sz : Nat} {w : World} {v : Value} {l : List α} (h : OwnL R B e sz w v l) (hR : ∀ a vs, R w a vs → R' w a vs) : OwnL R' B e sz w v l := by
 obtain ⟨xss, h1, h2, h3, h4⟩ := h
 exact ⟨xss, h1, h2, h3, fun i a x ha hx => hR _ _ (h4 i a x ha hx)⟩
theorem OwnL.base {α : Type} {R : World → α → List Value → Prop} {B B' : Nat} {e : TypeId} {sz : Nat} {w : World} {v : Value} {l : List α} (h : OwnL R B e sz w v l) (hB : B' ≤ B) : OwnL R B' e sz w v l := by
 obtain ⟨xss, ⟨h1, h2⟩, h3⟩ := h
 refine ⟨xss, ⟨h1, ?_⟩, h3⟩
 rcases h2 with h0 | ⟨g, cap, cur, rfl, hb, hh, h4⟩
 ·exact .inl h0
 ·exact .inr ⟨g, cap, cur, rfl, by omega, hh, h4⟩
def Exc (B : Nat) (v : Value) : Nat → Prop := fun b => B ≤ b ∧ v.ownBlock ≠ some b
structure StaO (B : Nat) (w : World) (s : Sta) (b d : Value) : Prop where
 ps : OwnL (ptV (Exc B b)) B 104 14 w b s.parts
 qs : OwnL (quV (Exc B d)) B 110 6 w d s.queues
end
section
open Go.RowKit
def partOk (p : Pt) : Bool := decide (1 ≤ p.id) && decide (p.id ≤ 6) && regMay 0 p.size && decide ((p.mem.length : Int) = p.size) && decide ((p.st : Int) ≤ 4)
theorem spart_ok (p : Pt) (A : Option Addr) (c : Nat) (w : World) (h8 : p.r.length = 8) :
  Calls Tryz.prog 58 #[.agg (partC p (.slice A p.mem.length c))] w fun e w' => e = .returned (.bool (partOk p)) ∧ Chg Non w w' := by
 have HM := Lh (fun W => regMay_ok 0 p.size W)
 have HE : Hid (partOk p = (decide (1 ≤ p.id) && decide (p.id ≤ 6) && regMay 0 p.size && decide ((p.mem.length : Int) = p.size) && decide ((p.st : Int) ≤ 4))) := Lh rfl
 obtain ⟨C, hC⟩ : ∃ C, partC p (.slice A p.mem.length c) = C := ⟨_, rfl⟩
 have hb : PartB (w.alloc (.cells C 104)) w.heap.size p (.slice A p.mem.length c) := ⟨by unfold PartAt; rw [hC]; exact blk_new _ _, h8⟩
 have HB := Lh hb
 obtain ⟨k0, k1, _, _, k12, k13⟩ := hb.cells
 rw [hC]
 obtain ⟨i, s, kp, r, pc, st, mem⟩ := p
 simp only at *
 obtain ⟨m, hm⟩ : ∃ m, regMay 0 s = m := ⟨_, rfl⟩
 obtain ⟨n, hn⟩ : ∃ n, mem.length = n := ⟨_, rfl⟩
 rw [hn] at k13 HB HE
 rw [hm] at HM HE
 clear hm hn hC hb
 by_cases h1 : 1 ≤ i
 ·by_cases h2 : i ≤ 6
  ·have d1 : decide (1 ≤ i) = true := by simpa using h1
   have d2 : decide (i ≤ 6) = true := by simpa using h2
   go_enter Tryz.func58, Tryz.ntmps58
   go_wp2_with fail
   refine (HM.out _).mono ?_
   rintro e u ⟨rfl, hg⟩
   have HB2 := Lh (HB.out.non hg)
   obtain ⟨k0, k1, _, _, k12, k13⟩ := HB2.out.cells
   have HG := Lh (((Chg.refl Non w).alloc _).then_non hg)
   clear hg HB
   go_wp2_with fail
   all_goals go_ret
   all_goals refine ⟨ret_b ?_, HG.out⟩
   all_goals rw [HE.out, Bool.eq_iff_iff]
   all_goals first
    | (simp_all; done)
    | (simp_all; omega)
    | trace_state
  ·have d1 : decide (1 ≤ i) = true := by simpa using h1
   have d2 : decide (i ≤ 6) = false := by simpa using h2
   go_enter Tryz.func58, Tryz.ntmps58
   go_wp2_with fail
   go_ret
   exact ⟨ret_b (by rw [HE.out, d1, d2]; rfl), (Chg.refl Non w).alloc _⟩
 ·have d1 : decide (1 ≤ i) = false := by simpa using h1
  go_enter Tryz.func58, Tryz.ntmps58
  go_wp2_with fail
  go_ret
  exact ⟨ret_b (by rw [HE.out, d1]; rfl), (Chg.refl Non w).alloc _⟩
theorem msgV_non {I : Nat → Prop} : ∀ W W' a vs, Chg Non W W' → msgV I W a vs → msgV I W' a vs := fun _ _ _ _ hg h => h.keep hg (fun _ _ e => e)
theorem quV_non {I : Nat → Prop} : ∀ W W' a vs, Chg Non W W' → quV I W a vs → quV I W' a vs := fun _ _ _ _ hg h => h.keep hg (fun _ _ e => e)
theorem ptV_non {I : Nat → Prop} : ∀ W W' a vs, Chg Non W W' → ptV I W a vs → ptV I W' a vs := fun _ _ _ _ hg h => h.keep hg (fun _ _ e => e)
theorem SlV.non {α : Type} {R : World → α → List Value → Prop} {I : Nat → Prop} {sz : Nat} {w w' : World} {l : List α} {v : Value} (h : SlV R I sz w l v) (hg : Chg Non w w') (hR : ∀ a vs, R w a vs → R w' a vs) : SlV R I sz w' l v := h.keep hg (fun _ _ e => e) (fun a vs _ => hR a vs)
theorem long_ok (size : Int) (A : Option Addr) (n c g : Nat) (w : World) (h : w.cell? ⟨g, 4, none⟩ = some (.int .i64 size)) :
  Calls Tryz.prog 103 #[.slice A n c, .pointer (some ⟨g, 0, none⟩)] w fun e w' => e = .returned (.bool (decide (size < (n : Int)))) ∧ Chg Non w w' := by
 go_enter Tryz.func103, Tryz.ntmps103
 go_wp2_with fail
 go_ret
 exact ⟨rfl, Chg.refl _ _⟩
def mayQ (q : Qu) : Bool := q.ch.may && decide ((q.msgs.length : Int) ≤ q.ch.cap) && !q.msgs.any fun m => decide (q.ch.size < (m.length : Int))
theorem mayQueue_ok (I : Nat → Prop) (q : Qu) (v : Value) (w : World) (h : SlV (msgV I) I 1 w q.msgs v) :
  Calls Tryz.prog 59 #[.agg (q.L v).toArray] w fun e w' => e = .returned (.bool (mayQ q)) ∧ Chg Non w w' := by
 obtain ⟨A, c, rfl, hc, hcm, hr⟩ := h
 have HR := Lh hr
 have HM := Lh (fun W => chMay_ok q.ch.id q.ch.src q.ch.dst q.ch.cap q.ch.size W)
 have HE : Hid (mayQ q = (q.ch.may && decide ((q.msgs.length : Int) ≤ q.ch.cap) && !q.msgs.any fun m => decide (q.ch.size < (m.length : Int)))) := Lh rfl
 have HA := Lh (fun W (hg : Chg Non w W) g (hb : ∀ W', Chg Non W W' → W'.cell? ⟨g, 4, none⟩ = some (.int .i64 q.ch.size)) => anyMay (msgV I) I msgV_non (fun m => decide (q.ch.size < (m.length : Int))) (.pointer (some ⟨g, 0, none⟩)) A q.msgs c W (hr.non hg (fun a vs h => msgV_non _ _ _ _ hg h)) (by
   rintro W' a vs hg2 ha ⟨m, rfl, ⟨A2, c2, rfl, _⟩, _⟩
   exact long_ok q.ch.size A2 a.length c2 g W' (hb W' hg2)) hc hcm)
 clear hr
 obtain ⟨⟨i, s, d, cap, sz⟩, ms⟩ := q
 simp only [Ch.may] at *
 obtain ⟨m, hm⟩ : ∃ m, chMay i s d cap sz = m := ⟨_, rfl⟩
 obtain ⟨x, hx⟩ : ∃ x, (ms.any fun m => decide (sz < (m.length : Int))) = x := ⟨_, rfl⟩
 rw [hx] at HE
 simp only [hx] at HA
 rw [hm] at HM HE
 clear hm hx
 show Calls _ _ #[.agg #[.int .i64 i, .int .i64 s, .int .i64 d, .int .i64 cap, .int .i64 sz, .slice A ms.length c]] _ _
 go_enter Tryz.func59, Tryz.ntmps59
 go_wp2_with fail
 refine (HM.out _).mono ?_
 rintro e u ⟨rfl, hg⟩
 have hb := blk_call hg
 have HB := Lh hb
 have HG := Lh (((Chg.refl Non w).alloc _).then_non hg)
 have k3 := blk_cell hb 3 (v := .int .i64 cap) rfl
 have k5 := blk_cell hb 5 (v := .slice A ms.length c) rfl
 clear hg hb
 cases m with
 | false =>
  go_wp2_with fail
  go_ret
  exact ⟨ret_b (by rw [HE.out]; rfl), HG.out⟩
 | true =>
  by_cases h1 : (ms.length : Int) ≤ cap
  ·have d1 : decide ((ms.length : Int) ≤ cap) = true := by simpa using h1
   go_wp2_with fail
   refine (HA.out _ HG.out _ (fun W' hg => blk_cell (blk_keep HB.out hg (fun e => e)) 4 (v := .int .i64 sz) rfl)).mono ?_
   rintro e u2 ⟨rfl, hg⟩
   have HG2 := Lh (HG.out.then_non hg)
   clear hg
   go_wp2_with fail
   go_ret
   exact ⟨ret_b (by rw [HE.out, d1]; simp), HG2.out⟩
  ·have d1 : decide ((ms.length : Int) ≤ cap) = false := by simpa using h1
   go_wp2_with fail
   go_ret
   exact ⟨ret_b (by rw [HE.out, d1]; rfl), HG.out⟩
end
section
open Go.RowKit
theorem al_2_0 (w : World) (a b : Obj) : ((w.alloc a).alloc b).heap[w.heap.size]? = some a := by
 rw [Below.heap_alloc _ _ _ (by simp), heap_alloc_new]
theorem al_2_1 (w : World) (a b : Obj) : ((w.alloc a).alloc b).heap[w.heap.size + 1]? = some b := by
 rw [show w.heap.size + 1 = (w.alloc a).heap.size by simp, heap_alloc_new]
theorem al_3_0 (w : World) (a b c : Obj) : (((w.alloc a).alloc b).alloc c).heap[w.heap.size]? = some a := by
 rw [Below.heap_alloc _ _ _ (by simp; omega), al_2_0]
theorem al_3_1 (w : World) (a b c : Obj) : (((w.alloc a).alloc b).alloc c).heap[w.heap.size + 1]? = some b := by
 rw [Below.heap_alloc _ _ _ (by simp), al_2_1]
theorem al_3_2 (w : World) (a b c : Obj) : (((w.alloc a).alloc b).alloc c).heap[w.heap.size + 1 + 1]? = some c := by
 rw [show w.heap.size + 1 + 1 = ((w.alloc a).alloc b).heap.size by simp, heap_alloc_new]
theorem partC_one (p : Pt) (m : Value) (hm : m.oneCell' = true) : (partC p m).all (·.oneCell') = true := by
 simp only [partC, partL, List.all_toArray]
 rw [List.all_eq_true]
 intro v hv
 simp only [List.mem_cons, List.mem_append, List.mem_map, List.not_mem_nil, or_false] at hv
 rcases hv with rfl | rfl | rfl | ⟨n, _, rfl⟩ | rfl | rfl | rfl
 all_goals first | rfl | exact hm
def zeroPart : Array Value := #[.int .i64 0, .int .i64 0, .bool false, .int .u32 0, .int .u32 0, .int .u32 0, .int .u32 0, .int .u32 0, .int .u32 0, .int .u32 0, .int .u32 0, .int .u32 0, .int .u8 0, .slice none 0 0]
theorem Copy_ok (p : Pt) (A : Option Addr) (l : List UInt8) (c : Nat) (w : World) (h8 : p.r.length = 8) (hr : Rd w A l) (hl : l.length ≤ 140737488355328) :
  Calls Tryz.prog 184 #[.agg (partC p (.slice A l.length c))] w fun e w' => ∃ A2 c2, e = .returned (.agg (partC p (.slice A2 l.length c2))) ∧ l.length ≤ c2 ∧ c2 ≤ maxLen ∧ Own w.heap.size w' A2 l ∧ Chg Non w w' := by
 have HR := Lh hr
 obtain ⟨C, hC⟩ : ∃ C, partC p (.slice A l.length c) = C := ⟨_, rfl⟩
 have hsz : C.size = 14 := by rw [← hC]; exact partC_size h8 _
 have e13 : C[13]'(by omega) = .slice A l.length c := by
  have h := partC_end h8 (.slice A l.length c) 2 (by omega)
  rw [hC] at h
  rw [Array.getElem?_eq_getElem (by omega)] at h
  simpa using h
 have HC := Lh hC
 rw [hC]
 clear hC hr
 go_enter Tryz.func184, Tryz.ntmps184
 go_wp2_with fail
 have HZ : Hid (Chg Non w ((w.alloc (.cells C 104)).alloc (.cells zeroPart 104))) := Lh (((Chg.refl Non w).alloc _).alloc _)
 refine (SlClone_ok A l c _ (HR.out.non HZ.out) hl).mono ?_
 rintro e w1 ⟨A2, c2, rfl, q1, q2, q3, q4⟩
 have HO := Lh (q3.mono (show w.heap.size + 2 ≤ _ by simp))
 have HG := Lh (HZ.out.then_non q4)
 have HB0 := Lh (blockN q4 (al_2_0 w _ _))
 have HB1 := Lh (blockN q4 (al_2_1 w (.cells C 104) (.cells zeroPart 104)))
 have hp0 : PartB w1 w.heap.size p (.slice A l.length c) := ⟨by unfold PartAt; rw [HC.out]; exact HB0.out, h8⟩
 have HP := Lh hp0
 have hlt := hp0.lt
 have hf := hp0.frozen 13
 have hc13 := hp0.cells.2.2.2.2.2
 clear q3 q4 hp0 e13
 go_wp2_with (refine sel (some 7) (.load _ _) ?_; refine Vm_stop ?_)
 refine HoleV.mk ?_
 have hp1 := HP.out.setMem (.slice A2 l.length c2)
 have HG1 := Lh (HG.out.then_new (setAt w1 w.heap.size 13 (.slice A2 l.length c2)) (fun x e => by omega))
 have HO1 := Lh (HO.out.keep (setAt w1 w.heap.size 13 (.slice A2 l.length c2)) (fun b' o' e1 e2 e3 e4 => by omega))
 have HB11 := Lh (blockS HB1.out (setAt w1 w.heap.size 13 (.slice A2 l.length c2)) (by omega))
 have HP1 := Lh hp1
 refine wpList_load_row rfl 104 (.tmp 1) rfl w.heap.size rfl 104 (partC p (.slice A2 l.length c2)) (0, 0) _ HP1.out.out Tryz.underlying104 rfl (by rw [partC_size h8]; exact info_part) ?_
 have hone : (partC p (.slice A2 l.length c2)).all (·.oneCell') = true := partC_one _ _ rfl
 refine wpList_store_rowA rfl 104 (.tmp 2) (.tmp 7) rfl (w.heap.size + 1) (partC p (.slice A2 l.length c2)) rfl rfl 104 zeroPart HB11.out (by rw [partC_size h8]; exact info_part) (by rw [partC_size h8]; rfl) hone ?_
 intro W hgW hbW
 have HBW := Lh hbW
 have HG2 := Lh (HG1.out.then_new hgW (fun x e => by omega))
 have HO2 := Lh (HO1.out.keep hgW (fun b' o' e1 e2 e3 e4 => by omega))
 clear hbW hgW hp1
 go_wp2_with fail
 exact bodyPost_ret (results_cell_row Tryz.results184 _ _ (w.heap.size + 1) 104 _ (0, 0) _ rfl HBW.out Tryz.underlying104 rfl (by rw [partC_size h8]; exact info_part)) rfl ⟨A2, c2, rfl, q1, q2, HO2.out.mono (by omega), HG2.out⟩
end
end Go.Proofs.YtkgnlobabknkcaaGreat
