/- CheckBase, part 6 of 21: contracts of the functions that it reaches, and the laws that they need, merged and shortened (from my texts XRegAll, XOwnL, XValE, XValF). -/
import Derived.Test.YtkgnlobabknkcaaGreatMgCheckBaseB
import Derived.Test.YtkgnlobabknkcaaGreatMgCheckBaseD
import Derived.Test.YtkgnlobabknkcaaGreatMgCheckBaseE
import Derived.Deep.AppendLies
import Derived.Maps.AppendAt
namespace Go.Proofs.YtkgnlobabknkcaaGreat
set_option linter.unusedVariables false
set_option linter.unusedSimpArgs false
set_option maxHeartbeats 8000000
section
open Go.RowKit Go.Shelf
attribute [local go_sem] Oper.semAt_some
def Rg.may (a : Rg) : Bool := regMay a.base a.size
def rgApart (a b : Rg) : Bool := apartB a.base a.size b.base b.size
def allApart (l : List Rg) : Prop := ∀ (i j : Nat) (a b : Rg), i < j → l[i]? = some a → l[j]? = some b → rgApart a b = true
open Classical in
noncomputable def regAll (l : List Rg) : Int := if l.all Rg.may = false then 2 else if allApart l then 0 else 121
theorem res_err {tmps : Array Value} {W : World} {g : Nat} {v : Int} (hp : tmps.getD 2 undef = .pointer (some ⟨g, 0, none⟩)) (hb : W.heap[g]? = some (.cells #[.int .i64 v] 34 (0, 0))) : (results Tryz.f231 tmps).run Tryz.prog W = .ok (.int .i64 v) W := by
 have hc := blk_cell hb 0 (v := .int .i64 v) rfl
 have hp' : tmps[2]?.getD undef = .pointer (some ⟨g, 0, none⟩) := by simpa using hp
 simp [results, Tryz.results231, hp', asAddr, go_sem, hc]
theorem own_blk {β : Type} (g : Nat) (cs : Array Value) (t : TypeId) (fr : Nat × Nat) : _root_.Go.Own (fun (_ : β) (W : World) => W.heap[g]? = some (.cells cs t fr)) := fun s X Y row hs hg hrow => by
 have hs : X.heap[g]? = some (.cells cs t fr) := hs
 refine (hg.block g (blk_lt hs) (fun e' => ?_)).trans hs
 obtain ⟨o, ho, hc⟩ := hrow g e'.symm
 rw [hs] at ho
 injection ho with ho
 subst ho
 cases hc
theorem pairs_ok (A : Option Addr) (n c : Nat) (w : World) :
  Calls Tryz.prog 239 #[.slice A n c] w fun e w' => e = .returned (.func (.func 244) #[] #[.pointer (some ⟨w.heap.size, 0, none⟩)]) ∧ w' = w.alloc (.cells #[.slice A n c] 272) := by
 have hmf := mk_func
 go_enter Tryz.func239, Tryz.ntmps239
 go_wp2
 go_ret
 exact ⟨rfl, rfl⟩
set_option maxRecDepth 100000 in
theorem regAll_in (I : Nat → Prop) (A : Option Addr) (rs : List Rg) (c : Nat) (w : World) (hr : RdL rgV I 2 w A rs) (hc : rs.length ≤ c) (hm : c ≤ maxLen) :
  CallsIn Fence.wide 3 Tryz.prog 231 #[.slice A rs.length c] w fun e w' => e = .returned (.int .i64 (regAll rs)) ∧ Chg Non w w' := by
 have hm' := hm
 unfold maxLen at hm
 have HR := Lib.hid hr
 clear hr
 have hro : Fence.wide.round = none := rfl
 refine callsIn_of_wp_marks Tryz.func231 rfl trivial ?_ hro
 simp only [Tryz.ntmps231, List.size_toArray, List.length_cons, List.length_nil, Nat.reduceAdd, Nat.reduceSub, Array.replicate_succ, Array.replicate_zero, List.push_toArray, List.append_toArray, List.nil_append, List.cons_append]
 gi_wp2
 gi_loopw [9] (fun iv wr => ∃ k : Nat, k ≤ rs.length ∧ iv = .int .i64 k ∧ Hid (∀ (i : Nat) (a : Rg), i < k → rs[i]? = some a → a.may = true) ∧ Hid (wr.heap[w.heap.size]? = some (.cells #[.int .i64 0] 34 (0, 0))) ∧ Hid (Chg Non w wr)) (fun iv _ => rs.length - (intOf iv).toNat)
 case atStart => exact ⟨0, Nat.zero_le _, rfl, Lib.hid (fun i a h => by omega), Lib.hid (blk_new _ _), Lib.hid ((Chg.refl Non w).alloc _)⟩
 case round =>
  obtain ⟨k, hk, rfl, HN, HB2, HG⟩ := hrel
  by_cases hlt : k < rs.length
  ·obtain ⟨a, ha⟩ : ∃ a, rs[k]? = some a := ⟨_, List.getElem?_eq_getElem hlt⟩
   obtain ⟨b, o, vs, rfl, _, hl, hcell, rfl⟩ := HR.out k a ha
   have k0 : wr.cell? ⟨b, o + k * 2, none⟩ = some (.int .i64 a.base) := HG.out.cell_some (hcell 0 (.int .i64 a.base) rfl) (fun e => e)
   have k1 : wr.cell? ⟨b, o + k * 2 + 1, none⟩ = some (.int .i64 a.size) := HG.out.cell_some (hcell 1 (.int .i64 a.size) rfl) (fun e => e)
   have hltd : decide ((k : Int) < (rs.length : Int)) = true := by simpa using hlt
   have HA := Lib.hid ha
   have hbl := lt_of_cell k0
   have HM := Lib.hid (fun W => regMay_ok a.base a.size W)
   obtain ⟨m, hmm⟩ : ∃ m, a.may = m := ⟨_, rfl⟩
   rw [show regMay a.base a.size = m from hmm] at HM
   have HMa := Lib.hid hmm
   clear ha hcell hl hmm
   obtain ⟨x, y⟩ := a
   simp only at k0 k1 HM
   gi_wp2_with fail
   refine ⟨trivial, (callsIn_wide.2 (HM.out _)).mono ?_⟩
   rintro e u ⟨rfl, hg⟩
   have HG2 := Lib.hid ((HG.out.alloc _).then_non hg)
   have hb2 := blk_keep (blk_keep HB2.out ((Chg.refl Non wr).alloc _) (fun e => e)) hg (fun e => e)
   have HB3 := Lib.hid hb2
   have c2 := blk_cell hb2 0 (v := .int .i64 0) rfl
   have f2 := blk_free hb2 0
   clear hg hb2
   cases m with
   | false =>
    have HE : Hid (regAll rs = 2) := Lib.hid (by
      rw [regAll, if_pos]
      rw [List.all_eq_false]
      exact ⟨_, List.mem_of_getElem? HA.out, by rw [HMa.out]; simp⟩)
    gi_wp2_with fail
    exact ⟨_, res_err (by kernel_rfl) (by have := blk_set 0 (.int .i64 2) HB3.out; simpa using this), by rw [HE.out], HG2.out.then_new (chg_set _ _ _ _) (fun x e => by omega)⟩
   | true =>
    have HN2 : Hid (∀ (i : Nat) (x : Rg), i < k + 1 → rs[i]? = some x → x.may = true) := Lib.hid (fun i z hi hx => by
      by_cases e : i = k
      · subst e
        rw [HA.out] at hx
        injection hx with hx
        subst hx
        exact HMa.out
      · exact HN.out i z (by omega) hx)
    clear c2 f2
    gi_wp2_with fail
    exact ⟨⟨k + 1, by omega, by simp, HN2, HB3, HG2⟩, by simp [intOf]; omega⟩
  ·obtain rfl : k = rs.length := by omega
   have hltd : decide ((rs.length : Int) < (rs.length : Int)) = false := by simp
   have HP := Lib.hid (pairs_ok A rs.length c wr)
   have HE : Hid (regAll rs = @ite Int (allApart rs) (Classical.propDecidable _) 0 121) := Lib.hid (by
     rw [regAll, if_neg]
     rw [Bool.not_eq_false, List.all_eq_true]
     intro a ha
     obtain ⟨i, hi⟩ := List.getElem?_of_mem ha
     exact HN.out i a (List.getElem?_eq_some_iff.1 hi).1 hi)
   gi_wp2_with fail
   refine ⟨trivial, (callsIn_wide.2 HP.out).mono ?_⟩
   rintro e u ⟨rfl, rfl⟩
   gi_wp2_with fail
   have hws : w.heap.size < wr.heap.size := blk_lt HB2.out
   have hbx : (wr.alloc (.cells #[.slice A rs.length c] 272)).cell? ⟨wr.heap.size, 0, none⟩ = some (.slice A rs.length c) := blk_cell (blk_new wr _) 0 rfl
   have HRw := Lib.hid (HR.out.non (HG.out.alloc (.cells #[.slice A rs.length c] 272)) (fun _ _ h => h))
   have hb0 : Boxed (wr.alloc (.cells #[.slice A rs.length c] 272)) w.heap.size 34 (.int .i64 0) := blk_keep HB2.out ((Chg.refl Non wr).alloc _) (fun e => e)
   have hbl0 : Below w.heap.size w (wr.alloc (.cells #[.slice A rs.length c] 272)) := (HG.out.alloc _).below_non
   have hsz : (wr.alloc (.cells #[.slice A rs.length c] 272)).heap.size = wr.heap.size + 1 := by simp
   obtain ⟨W0, hW0⟩ : ∃ W0, wr.alloc (.cells #[.slice A rs.length c] 272) = W0 := ⟨_, rfl⟩
   rw [hW0] at hbx HRw hb0 hbl0 hsz ⊢
   clear hW0 HP HG HB2
   refine wpIn_rangeFunc_ownH hro (by omega) (gf := 244) (lb := #[.pointer (some ⟨wr.heap.size, 0, none⟩)]) rfl trivial (enters_of Tryz.func244 (by kernel_rfl) rfl)
    (pairs_stops Fence.wide (3 - 1) trivial hro (by omega) wr.heap.size rs A c hc hm' I W0 hbx HRw.out) KC.trans (fun W l o o' _ h1 h2 _ => KC.put W l o o' h1 h2) (Below.refl _ _) (fun _ => rfl)
    (fun pre W => (Boxed W w.heap.size 34 (.int .i64 0) ∧ ∀ x ∈ pre, rgApart x.1 x.2 = true) ∧ Below w.heap.size w W)
    (fun cd pre W => ((cd = .ret ∧ ∃ x ∈ pre, rgApart x.1 x.2 = false) ∧ Boxed W w.heap.size 34 (.int .i64 121)) ∧ Below w.heap.size w W)
    (OwnFrom.and (OwnFrom.and (Own.from (boxed_own _ _ (fun _ => .int .i64 0)) _) (ownFrom_pure _ _)) (ownFrom_below (Nat.le_refl _) (by omega)))
    (fun cd => OwnFrom.and (OwnFrom.and (ownFrom_pure _ _) (Own.from (boxed_own _ _ (fun _ => .int .i64 121)) _)) (ownFrom_below (Nat.le_refl _) (by omega)))
    ⟨⟨hb0, fun x h => by cases h⟩, hbl0⟩
    (fun x a' W => ∃ B5 B6, (W.heap[B5]? = some (.cells #[.int .i64 x.1.base, .int .i64 x.1.size] 159 (0, 0)) ∧ W.heap[B6]? = some (.cells #[.int .i64 x.2.base, .int .i64 x.2.size] 159 (0, 0))) ∧ a' = { tmps := #[.slice A rs.length c, undef, .pointer (some ⟨w.heap.size, 0, none⟩), undef, u4, .pointer (some ⟨B5, 0, none⟩), .pointer (some ⟨B6, 0, none⟩), .slice A rs.length c, .int .i64 (rs.length : Nat), .int .i64 (rs.length : Nat), .bool false, u11, u12, u13, u14, u15, u16, .slice A rs.length c, .func (.func 244) #[] #[.pointer (some ⟨wr.heap.size, 0, none⟩)], x.1.V, x.2.V, undef, undef, undef, undef], defers := [] })
    (fun x a' _ X Y row hs hg hrw => by
      obtain ⟨B5, B6, ⟨h5, h6⟩, h3⟩ := hs
      exact ⟨B5, B6, ⟨own_blk B5 _ _ _ () X Y row h5 hg (fun r e => (hrw r e).2), own_blk B6 _ _ _ () X Y row h6 hg (fun r e => (hrw r e).2)⟩, h3⟩)
    ?assign ?body ?done ?stop
   case assign =>
    rintro l pre ⟨⟨x1, y1⟩, ⟨x2, y2⟩⟩ W K ⟨⟨hb, hp⟩, hbl⟩ hK
    have hg2 : Chg Non W ((W.alloc (.cells #[.int .i64 x1, .int .i64 y1] 159)).alloc (.cells #[.int .i64 x2, .int .i64 y2] 159)) := ((Chg.refl Non W).alloc _).alloc _
    have hb5 := heap_alloc2_old W (.cells #[.int .i64 x1, .int .i64 y1] 159) (.cells #[.int .i64 x2, .int .i64 y2] 159)
    have hb6 := heap_alloc2_new W (.cells #[.int .i64 x1, .int .i64 y1] 159) (.cells #[.int .i64 x2, .int .i64 y2] 159)
    have H := Lib.hid (hK _ _ (keepsFrom_non _ hg2) (KC.of_non hg2) ⟨⟨blk_keep hb hg2 (fun e => e), hp⟩, hbl.trans (hg2.below_non.mono hbl.size)⟩ ⟨W.heap.size, W.heap.size + 1, ⟨hb5, hb6⟩, rfl⟩)
    clear hb hp hbl hg2 hb5 hb6 hK
    dsimp only [Rg.V] at H ⊢
    gi_wp2
    exact H.out
   case body =>
    rintro l pre ⟨⟨x1, y1⟩, ⟨x2, y2⟩⟩ a' W hl ⟨r, hr⟩ ⟨⟨hb, hp⟩, hbl⟩ ⟨B5, B6, ⟨h5, h6⟩, rfl⟩ hlt
    have c50 := blk_cell h5 0 (v := .int .i64 x1) rfl
    have c51 := blk_cell h5 1 (v := .int .i64 y1) rfl
    have c60 := blk_cell h6 0 (v := .int .i64 x2) rfl
    have c61 := blk_cell h6 1 (v := .int .i64 y2) rfl
    have HAp := Lib.hid (fun V => apart_ok x1 y1 x2 y2 V)
    have HI := Lib.hid (And.intro hb (And.intro hp hbl))
    obtain ⟨q, hq⟩ : ∃ q, apartB x1 y1 x2 y2 = q := ⟨_, rfl⟩
    rw [hq] at HAp
    have HQ := Lib.hid (show rgApart ⟨x1, y1⟩ ⟨x2, y2⟩ = q from hq)
    clear hb hp hbl hq h5 h6 hr
    dsimp only [Rg.V]
    gi_wp2_with fail
    refine ⟨trivial, (CallsIn.inRound l (callsIn_wide.2 (HAp.out _))).mono ?_⟩
    rintro e V ⟨rfl, hg⟩
    have hb2 : Boxed V w.heap.size 34 (.int .i64 0) := blk_keep HI.out.1 hg (fun e => e)
    have hbl2 : Below w.heap.size w V := HI.out.2.2.trans (hg.below_non.mono HI.out.2.2.size)
    have HG := Lib.hid (And.intro hg (And.intro hb2 hbl2))
    have c2 := hb2.cell
    have f2 := hb2.frozen
    clear hg hb2 hbl2
    cases q with
    | true =>
     gi_wp2_with fail
     exact ⟨keepsFrom_non _ HG.out.1, KC.of_non HG.out.1, ⟨HG.out.2.1, fun z hz => by
       rcases List.mem_append.1 hz with h | h
       · exact HI.out.2.1 z h
       · obtain rfl := List.mem_singleton.1 h
         exact HQ.out⟩, HG.out.2.2⟩
    | false =>
     gi_wp2_with fail
     refine ⟨(keepsFrom_non _ HG.out.1).trans ((KeepsOthers.setCell _ _ _).from _), ⟨⟨rfl, _, List.mem_append.2 (.inr (List.mem_singleton.2 rfl)), HQ.out⟩, HG.out.2.1.set _⟩, HG.out.2.2.setCell (p := ⟨w.heap.size, 0, none⟩) (Nat.le_refl _) _⟩
   case done =>
    rintro D zs W hD rfl ⟨⟨hb, hp⟩, hbl⟩ hK
    have c2 := hb.cell
    have f2 := hb.frozen
    have hDn : D ≠ w.heap.size := by omega
    have HE2 : Hid (regAll rs = 0) := Lib.hid (by
      rw [HE.out, if_pos]
      intro i j a b hij ha hb'
      exact hp _ (pk_all hij ha hb' (by have := (List.getElem?_eq_some_iff.1 ha).1; exact this)))
    have hK2 : (W.setCell ⟨w.heap.size, 0, none⟩ (.int .i64 0)).heap[D]? = some (.deferred (some [])) := blk_keep hK (chg_set W w.heap.size 0 (.int .i64 0)) (fun e => hDn e)
    have HF := Lib.hid (And.intro hK2 (And.intro (hb.set (.int .i64 0)) (hbl.setCell (p := ⟨w.heap.size, 0, none⟩) (Nat.le_refl _) (.int .i64 0))))
    clear hb hp hbl hK hK2
    gi_wp2_with fail
    refine ⟨by simp, .inl ⟨_, _, rfl, run_takeDeferred HF.out.1, ?_⟩⟩
    have hbp := (HF.out.2.1).kept (grownBy_putObj' _ D (.deferred none)) (fun e => by injection e with e; omega)
    exact ⟨_, res_err (by kernel_rfl) hbp, by rw [HE2.out], Chg.of_below (HF.out.2.2.trans (belowK_b (w := w) (Nat.le_refl _) _ D _ _ (by omega) HF.out.1 rfl rfl)) (Nat.le_refl _)⟩
   case stop =>
    rintro D cd pre W hD hsp ⟨⟨⟨rfl, z, hz, hzf⟩, hb⟩, hbl⟩ hK
    have HE2 : Hid (regAll rs = 121) := Lib.hid (by
      rw [HE.out, if_neg]
      intro hall
      obtain ⟨i, j, hij, h1, h2⟩ := pk_mem (hsp z hz)
      rw [hall i j _ _ hij h1 h2] at hzf
      cases hzf)
    have HF := Lib.hid (And.intro hK (And.intro hb hbl))
    clear hb hbl hK hsp hz hzf
    gi_wp2_with fail
    refine ⟨by simp, .inl ⟨_, _, rfl, run_takeDeferred HF.out.1, ?_⟩⟩
    have hbp := (HF.out.2.1).kept (grownBy_putObj' _ D (.deferred none)) (fun e => by injection e with e; omega)
    exact ⟨_, res_err (by kernel_rfl) hbp, by rw [HE2.out], Chg.of_below (HF.out.2.2.trans (belowK_b (w := w) (Nat.le_refl _) _ D _ _ (by omega) HF.out.1 rfl rfl)) (Nat.le_refl _)⟩
theorem regAll_ok (I : Nat → Prop) (A : Option Addr) (rs : List Rg) (c : Nat) (w : World) (hr : RdL rgV I 2 w A rs) (hc : rs.length ≤ c) (hm : c ≤ maxLen) :
  Calls Tryz.prog 231 #[.slice A rs.length c] w fun e w' => e = .returned (.int .i64 (regAll rs)) ∧ Chg Non w w' := callsIn_wide.1 (regAll_in I A rs c w hr hc hm)
end
section
open Go.RowKit
theorem addr_none (b o k : Nat) : (⟨b, o, none⟩ : Addr).add k = ⟨b, o + k, none⟩ := by
 unfold Addr.add
 split <;> simp_all
theorem flat_get {α : Type} {xss : List (List α)} {sz : Nat} (h : ∀ x ∈ xss, x.length = sz) {i j : Nat} {x : List α} {a : α} (hi : xss[i]? = some x) (hj : x[j]? = some a) : xss.flatten[i * sz + j]? = some a := by
 induction xss generalizing i with
 | nil => simp at hi
 | cons y t ih =>
  have hy := h y (List.mem_cons_self ..)
  cases i with
  | zero =>
   simp only [List.getElem?_cons_zero, Option.some.injEq] at hi
   subst hi
   rw [List.flatten_cons, Nat.zero_mul, Nat.zero_add, List.getElem?_append_left (List.getElem?_eq_some_iff.1 hj).1]
   exact hj
  | succ i =>
   rw [List.getElem?_cons_succ] at hi
   rw [List.flatten_cons, List.getElem?_append_right (by rw [hy, Nat.succ_mul]; omega), hy, show (i + 1) * sz + j - sz = i * sz + j by rw [Nat.succ_mul]; omega]
   exact ih (fun x hx => h x (List.mem_cons_of_mem _ hx)) hi
def OwnL {α : Type} (R : World → α → List Value → Prop) (B : Nat) (e : TypeId) (sz : Nat) (w : World) (v : Value) (l : List α) : Prop :=
 ∃ xss : List (List Value), w.ownsRow B e sz v l.length xss.flatten ∧ xss.length = l.length ∧ (∀ x ∈ xss, x.length = sz) ∧ ∀ (i : Nat) (a : α) (x : List Value), l[i]? = some a → xss[i]? = some x → R w a x
namespace OwnL
variable {α : Type} {R : World → α → List Value → Prop} {B : Nat} {e : TypeId} {sz : Nat} {w w' : World} {v : Value} {l : List α}
theorem nil (R : World → α → List Value → Prop) (B : Nat) (e : TypeId) (sz : Nat) (w : World) : OwnL R B e sz w (.slice none 0 0) [] := ⟨[], World.ownsRow_nil _ _ _ _, rfl, (fun x h => by cases h), (fun i a x h => by simp at h)⟩
theorem keep {S : Nat → Prop} (h : OwnL R B e sz w v l) (hg : Chg S w w') (hn : ∀ g, v.ownBlock = some g → ¬ S g) (hR : ∀ a vs, R w a vs → R w' a vs) : OwnL R B e sz w' v l := by
 obtain ⟨xss, ⟨h1, h2⟩, h3, h4, h5⟩ := h
 refine ⟨xss, ⟨h1, ?_⟩, h3, h4, fun i a x ha hx => hR _ _ (h5 i a x ha hx)⟩
 rcases h2 with h0 | ⟨g, cap, cur, rfl, hB, hb, r1⟩
 ·exact .inl h0
 ·exact .inr ⟨g, cap, cur, rfl, hB, (hg.block g (Array.getElem?_eq_some_iff.1 hb).1 (hn g rfl)).trans hb, r1⟩
theorem non (h : OwnL R B e sz w v l) (hg : Chg Non w w') (hR : ∀ a vs, R w a vs → R w' a vs) : OwnL R B e sz w' v l := h.keep hg (fun _ _ e => e) hR
theorem ge (h : OwnL R B e sz w v l) {g : Nat} (hg : v.ownBlock = some g) : B ≤ g ∧ g < w.heap.size := by
 obtain ⟨xss, ⟨h1, h2⟩, _⟩ := h
 rcases h2 with ⟨rfl, _⟩ | ⟨g2, cap, cur, rfl, hB, hb, _⟩
 ·simp [Value.ownBlock] at hg
 ·obtain rfl : g2 = g := by simpa [Value.ownBlock] using hg
  exact ⟨hB, blk_lt hb⟩
theorem rd (h : OwnL R B e sz w v l) : ∃ A c, v = .slice A l.length c ∧ l.length ≤ c ∧ c ≤ maxLen ∧ RdL R (fun b => v.ownBlock = some b) sz w A l := by
 obtain ⟨xss, hown, h3, h4, h5⟩ := h
 rcases hown.2 with ⟨rfl, h0⟩ | ⟨g, cap, cur, rfl, hB, hb, r1, r2, r3, r4⟩
 ·have : l = [] := List.eq_nil_of_length_eq_zero h0
  subst this
  exact ⟨none, 0, rfl, Nat.le_refl _, by simp, RdL.nil _ _ _ _ _⟩
 ·refine ⟨_, cap, rfl, r1, r2, fun i a ha => ?_⟩
  have hil := (List.getElem?_eq_some_iff.1 ha).1
  obtain ⟨x, hx⟩ : ∃ x, xss[i]? = some x := ⟨_, List.getElem?_eq_getElem (by omega)⟩
  refine ⟨g, 0, x, rfl, rfl, h4 x (List.mem_of_getElem? hx), fun j v hv => ?_, h5 i a x ha hx⟩
  have hf := flat_get h4 hx hv
  rw [cell_of_row _ _ _ _ _ _ hb, Nat.zero_add]
  rw [← r4] at hf
  have hlt : i * sz + j < l.length * sz := by
   have := (List.getElem?_eq_some_iff.1 hf).1
   rw [List.length_take] at this
   omega
  rw [List.getElem?_take_of_lt hlt, Array.getElem?_toList] at hf
  exact hf
end OwnL
theorem wpList_snocL {P : Program} {α : Type} (R : World → α → List Value → Prop) {ops : Array Oper} {rest : List Oper} {o : Oper} {a : Act} {w : World} {Q : Exit → Act → World → Prop} (hgd : o.guard = none) (s x : Operand) (t : TypeId)
  (ho : o.op = .call { callee := .builtin .append, args := #[s, x], argTypes := #[t, t] }) (B : Nat) (e : TypeId) (z : Value) (sz bytes : Nat) (ht : P.underlying t = some (.slice e)) (hi : (P.info? e).map (fun i => (i.zero, i.size, i.bytes)) = some (some z, sz, bytes))
  (hzs : z.cells.size = sz) (hsz : 0 < sz) (v : Value) (l : List α) (hs : a.eval s = v) (hown : OwnL R B e sz w v l) (b : Nat) (k : α) (cs : Array Value) (tb : TypeId) (hx : a.eval x = .slice (some ⟨b, 0, none⟩) 1 1) (hb : w.heap[b]? = some (.cells cs tb (0, 0))) (hcs : cs.size = sz) (h1 : cs.all (·.oneCell') = true)
  (hl : l.length ≤ 1000000) (hby : bytes ≤ 100000) (hB : B ≤ w.heap.size) (hR : ∀ w' a vs, Chg (fun k => v.ownBlock = some k) w w' → R w a vs → R w' a vs) (ha : R w k cs.toList)
  (h : ∀ v2 w2, OwnL R B e sz w2 v2 (l ++ [k]) → Chg (fun k => v.ownBlock = some k) w w2 → (∀ g, v2.ownBlock = some g → v.ownBlock = some g ∨ g = w.heap.size) → wpList P ops Q rest (a.put o.dst v2) w2) : wpList P ops Q (o :: rest) a w := by
 obtain ⟨i0, hi0, hz0, hs0, hb0⟩ := info_parts hi
 have hown' := hown
 obtain ⟨xss, hro, h3, h4, h5⟩ := hown
 refine wpList_append_lies w hgd s x t ho B e i0 z sz bytes ht hi0 hz0 hs0 hb0 hzs hsz v l.length xss.flatten hs hro ⟨b, 0, none⟩ 1 1 cs.toList hx (by simp [hcs]) ?_ ?_ (by omega) (by unfold maxLen; omega) (Nat.le_trans (Nat.mul_le_mul (show l.length + 1 ≤ 1000001 by omega) hby) (by omega)) hB _ rfl ?_
 ·intro j u hu
  rw [addr_none, Nat.zero_add, cell_of_row _ _ _ _ _ _ hb]
  simpa using hu
 ·intro u hu
  have := Array.all_eq_true.1 h1
  obtain ⟨i, hi⟩ := List.getElem?_of_mem hu
  rw [Array.getElem?_toList] at hi
  obtain ⟨hlt, e⟩ := Array.getElem?_eq_some_iff.1 hi
  have := this i hlt
  rw [e] at this
  exact this
 ·intro g cap w2 h2 hgrow hat hlt
  have hg : Chg (fun k => v.ownBlock = some k) w w2 := (Chg.refl (fun k => v.ownBlock = some k) w).grown hgrow fun g' hg' => .inl hg'
  refine h _ _ ?_ hg (fun g' e => by
    have : g = g' := by simpa [Value.ownBlock] using e
    subst this
    exact hat)
  refine ⟨xss ++ [cs.toList], ?_, by simp [h3], ?_, ?_⟩
  ·rw [List.length_append, List.flatten_append]
   simpa using h2
  ·intro x hx
   rcases List.mem_append.1 hx with hx | hx
   ·exact h4 x hx
   ·obtain rfl := List.mem_singleton.1 hx
    rw [Array.length_toList, hcs]
  ·intro i c x hc hx
   by_cases hil : i < l.length
   ·rw [List.getElem?_append_left hil] at hc
    rw [List.getElem?_append_left (by omega)] at hx
    exact hR _ _ _ hg (h5 i c x hc hx)
   ·have hil2 : i < (l ++ [k]).length := (List.getElem?_eq_some_iff.1 hc).1
    obtain rfl : i = l.length := by simp at hil2; omega
    rw [List.getElem?_append_right (Nat.le_refl _), Nat.sub_self] at hc
    rw [List.getElem?_append_right (by omega), h3, Nat.sub_self] at hx
    simp only [List.getElem?_cons_zero, Option.some.injEq] at hc hx
    subst hc hx
    exact hR _ _ _ hg ha
theorem wpList_cloneL {P : Program} {α : Type} (R : World → α → List Value → Prop) {ops : Array Oper} {rest : List Oper} {o : Oper} {a : Act} {w : World} {Q : Exit → Act → World → Prop} (hgd : o.guard = none) (s x : Operand) (t : TypeId)
  (ho : o.op = .call { callee := .builtin .append, args := #[s, x], argTypes := #[t, t] }) (e : TypeId) (z : Value) (sz bytes : Nat) (ht : P.underlying t = some (.slice e)) (hi : (P.info? e).map (fun i => (i.zero, i.size, i.bytes)) = some (some z, sz, bytes))
  (hzs : z.cells.size = sz) (hsz : 0 < sz) (B g0 : Nat) (hs : a.eval s = .slice (some ⟨g0, 0, none⟩) 0 0) (hg0 : w.heap[g0]? = some (.cells #[] e (0, 0))) (hB : B ≤ g0) (I : Nat → Prop) (b o2 : Nat) (l : List α) (c : Nat) (hx : a.eval x = .slice (some ⟨b, o2, none⟩) l.length c) (hl0 : l ≠ []) (hr : RdL R I sz w (some ⟨b, o2, none⟩) l) (hone : ∀ a vs, R w a vs → ∀ u ∈ vs, u.oneCell' = true)
  (hl : l.length ≤ 1000000) (hby : bytes ≤ 100000) (hR : ∀ w' a vs, Chg (fun k => k = g0) w w' → R w a vs → R w' a vs)
  (h : ∀ v2 w2, OwnL R B e sz w2 v2 l → Chg (fun k => k = g0) w w2 → (∀ g, v2.ownBlock = some g → g = g0 ∨ g = w.heap.size) → wpList P ops Q rest (a.put o.dst v2) w2) : wpList P ops Q (o :: rest) a w := by
 obtain ⟨i0, hi0, hz0, hs0, hb0⟩ := info_parts hi
 have hpos : 0 < l.length := List.length_pos_iff.2 hl0
 obtain ⟨b', o', e', hIb, hat⟩ := hr.at_ hpos
 injection e' with e'
 injection e' with e1 e2 _
 subst e1 e2
 have hch : ∀ i, i < l.length → ∃ vs : List Value, vs.length = sz ∧ w.rangeAt b (o2 + i * sz) vs ∧ ∃ a, l[i]? = some a ∧ R w a vs := fun i hi => by
  obtain ⟨vs, h1, h2, h3⟩ := hat i l[i] (List.getElem?_eq_getElem hi)
  exact ⟨vs, h1, h2, l[i], List.getElem?_eq_getElem hi, h3⟩
 obtain ⟨xss, hxl, hxp⟩ : ∃ xss : List (List Value), xss.length = l.length ∧ ∀ (i : Nat) (x : List Value), xss[i]? = some x → x.length = sz ∧ w.rangeAt b (o2 + i * sz) x ∧ ∃ a, l[i]? = some a ∧ R w a x := by
  clear h hr hat
  have key : ∀ n, n ≤ l.length → ∃ xss : List (List Value), xss.length = n ∧ ∀ (i : Nat) (x : List Value), xss[i]? = some x → x.length = sz ∧ w.rangeAt b (o2 + i * sz) x ∧ ∃ a, l[i]? = some a ∧ R w a x := by
   intro n
   induction n with
   | zero => exact fun _ => ⟨[], rfl, fun i x h => by simp at h⟩
   | succ n ih =>
    intro hn
    obtain ⟨xs, h1, h2⟩ := ih (by omega)
    obtain ⟨vs, hv1, hv2, hv3⟩ := hch n (by omega)
    refine ⟨xs ++ [vs], by simp [h1], fun i x hx => ?_⟩
    by_cases hi : i < n
    ·rw [List.getElem?_append_left (by omega)] at hx
     exact h2 i x hx
    ·have := (List.getElem?_eq_some_iff.1 hx).1
     obtain rfl : i = n := by simp [h1] at this; omega
     rw [List.getElem?_append_right (by omega), h1, Nat.sub_self] at hx
     simp only [List.getElem?_cons_zero, Option.some.injEq] at hx
     subst hx
     exact ⟨hv1, hv2, hv3⟩
  exact key _ (Nat.le_refl _)
 have hall : ∀ x ∈ xss, x.length = sz := fun x hx => by
  obtain ⟨i, hi⟩ := List.getElem?_of_mem hx
  exact (hxp i x hi).1
 have hfl : xss.flatten.length = l.length * sz := by
  rw [← hxl]
  clear hxp hxl h hr hat hch
  induction xss with
  | nil => simp
  | cons y t ih =>
   rw [List.flatten_cons, List.length_append, hall y (List.mem_cons_self ..), ih (fun x hx => hall x (List.mem_cons_of_mem _ hx)), List.length_cons, Nat.succ_mul]
   omega
 have hown : w.ownsRow B e sz (.slice (some ⟨g0, 0, none⟩) 0 0) 0 [] := ⟨by simp, .inr ⟨g0, 0, #[], rfl, hB, hg0, Nat.le_refl _, by simp, by simp, by simp⟩⟩
 refine wpList_append_lies w hgd s x t ho B e i0 z sz bytes ht hi0 hz0 hs0 hb0 hzs hsz _ 0 [] hs hown ⟨b, o2, none⟩ l.length c xss.flatten hx hfl ?_ ?_ hpos (by unfold maxLen; omega) (by rw [Nat.zero_add]; exact Nat.le_trans (Nat.mul_le_mul hl hby) (by omega)) (by have := blk_lt hg0; omega) _ rfl ?_
 ·intro j u hu
  have hjl : j < l.length * sz := by rw [← hfl]; exact (List.getElem?_eq_some_iff.1 hu).1
  have hdm : j = j / sz * sz + j % sz := by rw [Nat.mul_comm]; exact (Nat.div_add_mod j sz).symm
  have hdl : j / sz < l.length := (Nat.div_lt_iff_lt_mul hsz).2 hjl
  obtain ⟨x, hx⟩ : ∃ x, xss[j / sz]? = some x := ⟨_, List.getElem?_eq_getElem (by omega)⟩
  obtain ⟨q1, q2, _⟩ := hxp _ _ hx
  obtain ⟨u', hu'⟩ : ∃ u', x[j % sz]? = some u' := ⟨_, List.getElem?_eq_getElem (by rw [q1]; exact Nat.mod_lt _ hsz)⟩
  have := flat_get hall hx hu'
  rw [← hdm, hu] at this
  injection this with this
  subst this
  have hc := q2 _ _ hu'
  rw [addr_none]
  have he : o2 + j / sz * sz + j % sz = o2 + j := by omega
  rw [he] at hc
  exact hc
 ·intro u hu
  obtain ⟨x, hx, hux⟩ := List.mem_flatten.1 hu
  obtain ⟨i, hi⟩ := List.getElem?_of_mem hx
  obtain ⟨_, _, a', _, hRa⟩ := hxp i x hi
  exact hone a' x hRa u hux
 ·intro g cap w2 h2 hgrow hat2 hlt
  have hg : Chg (fun k => k = g0) w w2 := (Chg.refl (fun k => k = g0) w).grown hgrow fun g' hg' => .inl (by simpa [Value.ownBlock, eq_comm] using hg')
  refine h _ _ ⟨xss, by simpa using h2, hxl, hall, fun i c x hc hx => ?_⟩ hg (fun g' e => by
    have : g = g' := by simpa [Value.ownBlock] using e
    subst this
    rcases hat2 with e | e
    · exact .inl (by simpa [Value.ownBlock, eq_comm] using e)
    · exact .inr e)
  obtain ⟨_, _, c', hc', hRc⟩ := hxp i x hx
  rw [hc] at hc'
  injection hc' with hc'
  subst hc'
  exact hR _ _ _ hg hRc
end
section
open Go.RowKit
theorem info_reg : (Tryz.prog.info? 159).map (fun i => (i.zero, i.size, i.bytes)) = some (some (.agg #[.int .i64 0, .int .i64 0]), 2, 16) := by kernel_rfl
def mayRegs (ps : List Pn) : List Rg := (ps.map fun p => (⟨p.base, p.size⟩ : Rg)).filter Rg.may
theorem mayRegs_snoc {ps : List Pn} {k : Nat} {a : Pn} (h : ps[k]? = some a) : mayRegs (ps.take (k + 1)) = if regMay a.base a.size = true then mayRegs (ps.take k) ++ [⟨a.base, a.size⟩] else mayRegs (ps.take k) := by
 obtain ⟨hk, rfl⟩ := List.getElem?_eq_some_iff.1 h
 rw [List.take_succ_eq_append_getElem hk]
 unfold mayRegs
 rw [List.map_append, List.filter_append]
 show _ ++ List.filter Rg.may [⟨ps[k].base, ps[k].size⟩] = _
 by_cases hm : regMay ps[k].base ps[k].size = true
 ·rw [if_pos hm, List.filter_cons_of_pos (show Rg.may ⟨ps[k].base, ps[k].size⟩ = true from hm)]
  rfl
 ·rw [if_neg hm, List.filter_cons_of_neg (show ¬ Rg.may ⟨ps[k].base, ps[k].size⟩ = true from hm)]
  simp
theorem mayRegs_len (ps : List Pn) : (mayRegs ps).length ≤ ps.length := by
 unfold mayRegs
 exact Nat.le_trans (List.length_filter_le _ _) (by simp)
noncomputable def overlapBad (ps : List Pn) : Bool := decide (regAll (mayRegs ps) ≠ 0)
set_option maxRecDepth 100000 in
theorem overlap_ok (I : Nat → Prop) (w : World) (va vd : Value) (A : Option Addr) (ps : List Pn) (c : Nat) (hr : RdL (pnV I) I 5 w A ps) (hc : ps.length ≤ c) (hm : c ≤ maxLen) (h6 : ps.length ≤ 1000) (o1 : va.oneCell' = true) (o2 : vd.oneCell' = true) :
  Calls Tryz.prog 222 #[.agg #[va, .slice A ps.length c, vd]] w fun e w' => e = .returned (.bool (overlapBad ps)) ∧ Chg Non w w' := by
 unfold maxLen at hm
 have HR := Lib.hid hr
 have HE : Hid (overlapBad ps = decide (regAll (mayRegs ps) ≠ 0)) := Lib.hid rfl
 clear hr
 go_enter Tryz.func222, Tryz.ntmps222
 go_wp2_with fail
 go_loopw [9, 3] (fun iv lv wr => ∃ k : Nat, k ≤ ps.length ∧ iv = .int .i64 k ∧ Hid (OwnL rgV w.heap.size 159 2 wr lv (mayRegs (ps.take k))) ∧ Hid (Chg Non w wr)) (fun iv _ _ => ps.length - (intOf iv).toNat)
 case atStart => exact ⟨0, Nat.zero_le _, rfl, Lib.hid (OwnL.nil _ _ _ _ _), Lib.hid ((Chg.refl _ _).alloc _)⟩
 case round =>
  obtain ⟨k, hk, rfl, HO, HG⟩ := hrel
  by_cases hlt : k < ps.length
  ·obtain ⟨a, ha⟩ : ∃ a, ps[k]? = some a := ⟨_, List.getElem?_eq_getElem hlt⟩
   obtain ⟨b, o, m, rfl, k0, k1, k2, k3, k4, ⟨A2, c2, rfl, _⟩, _, _, _, _, hbl⟩ := pn_at HR.out HG.out ha
   have hltd : decide ((k : Int) < (ps.length : Int)) = true := by simpa using hlt
   have HS := Lib.hid (mayRegs_snoc ha)
   have HM := Lib.hid (fun W => regMay_ok a.base a.size W)
   obtain ⟨q, hq⟩ : ∃ q, regMay a.base a.size = q := ⟨_, rfl⟩
   rw [hq] at HM HS
   clear ha hq
   obtain ⟨x, y, z, kp, im⟩ := a
   simp only at k0 k1 k2 k3 k4 HM HS
   go_wp2_with fail
   refine (HM.out _).mono ?_
   rintro e u ⟨rfl, hg⟩
   have hb := blk_call hg
   have HGu := Lib.hid ((HG.out.alloc _).then_non hg)
   have HOu := Lib.hid ((HO.out.non ((Chg.refl Non wr).alloc _) (fun _ _ h => h)).non hg (fun _ _ h => h))
   have m1 := blk_cell hb 1 (v := .int .i64 y) rfl
   have m2 := blk_cell hb 2 (v := .int .i64 z) rfl
   clear hb hg HO
   cases q with
   | false =>
    have HO2 : Hid (OwnL rgV w.heap.size 159 2 u _ (mayRegs (ps.take (k + 1)))) := Lib.hid (by rw [HS.out]; exact HOu.out)
    go_wp2_with fail
    exact ⟨⟨k + 1, by omega, by simp, HO2, HGu⟩, by simp [intOf]; omega⟩
   | true =>
    go_wp2_with (refine sel (some 20) (.call _) ?_; refine Vm_stop ?_)
    refine HoleV.mk ?_
    refine wpList_snocL rgV rfl (.tmp 16) (.tmp 19) 272 rfl w.heap.size 159 (.agg #[.int .i64 0, .int .i64 0]) 2 16 Tryz.underlying272 info_reg rfl (by omega) u3 (mayRegs (ps.take k)) rfl (HOu.out.non ((Chg.refl Non u).alloc _) (fun _ _ h => h)) u.heap.size ⟨y, z⟩ #[.int .i64 y, .int .i64 z] 159 rfl (blk_new _ _) rfl (by simp [Value.oneCell']) ?_ (by omega) ?_ (fun _ _ _ _ h => h) rfl ?_
    ·have h1 := mayRegs_len (ps.take k)
     rw [List.length_take] at h1
     omega
    ·have := HGu.out.size
     simp
     omega
    intro v2 w2 ho hg hv
    have HO2 : Hid (OwnL rgV w.heap.size 159 2 w2 v2 (mayRegs (ps.take (k + 1)))) := Lib.hid (by rw [HS.out, if_pos (by trivial)]; exact ho)
    have HG2 : Hid (Chg Non w w2) := Lib.hid ((HGu.out.alloc _).then_new hg (fun x e => (HOu.out.ge e).1))
    clear ho hg hv
    go_wp2_with fail
    exact ⟨⟨k + 1, by omega, by simp, HO2, HG2⟩, by simp [intOf]; omega⟩
  ·obtain rfl : k = ps.length := by omega
   have hltd : decide ((ps.length : Int) < (ps.length : Int)) = false := by simp
   have ho := HO.out
   rw [List.take_length] at ho
   obtain ⟨A3, c3, rfl, h1, h2, h3⟩ := ho.rd
   have HA := Lib.hid (regAll_ok _ A3 (mayRegs ps) c3 wr h3 h1 h2)
   clear ho h3 HO h2
   obtain ⟨e0, he0⟩ : ∃ e0, regAll (mayRegs ps) = e0 := ⟨_, rfl⟩
   rw [he0] at HA HE
   clear he0
   go_wp2_with fail
   refine HA.out.mono ?_
   rintro e u ⟨rfl, hg⟩
   have HG2 := Lib.hid (HG.out.then_non hg)
   clear hg
   go_wp2_with fail
   go_ret
   exact ⟨ret_b (by rw [HE.out]; by_cases h : e0 = 0 <;> simp [h]), HG2.out⟩
def rulesV : Array Value := #[.int .i64 90, .func (.func 219) #[] #[], .int .i64 120, .func (.func 220) #[] #[], .int .i64 80, .func (.func 221) #[] #[], .int .i64 121, .func (.func 222) #[] #[], .int .i64 100, .func (.func 223) #[] #[]]
set_option maxRecDepth 100000 in
theorem rules_ok (w : World) : Calls Tryz.prog 210 #[] w fun e w' => e = .returned (.agg rulesV) ∧ Chg Non w w' := by
 go_enter Tryz.func210, Tryz.ntmps210
 go_wp2_with (first
   | (refine sel (some 6) (.build 258 _) ?_; refine wpList_valA rfl (some 6) (.agg rulesV) rfl (by kernel_rfl) ?_)
   | (refine sel none (.store 258 (.tmp 0) (.tmp 6)) ?_
      refine wpList_store_rowA rfl 258 (.tmp 0) (.tmp 6) rfl w.heap.size rulesV rfl rfl 258 _ (blk_new _ _) (by kernel_rfl) rfl (by simp [rulesV, Value.oneCell']) ?_
      intro W hgW hbW))
 exact bodyPost_ret (res_c Tryz.results210 _ _ w.heap.size 258 rulesV (0, 0) _ (by kernel_rfl) hbW Tryz.underlying258 rfl (by kernel_rfl)) (by kernel_rfl) ⟨rfl, ((Chg.refl Non w).alloc _).then_new hgW (fun x e => by omega)⟩
def errV : World → Int → List Value → Prop := fun _ x vs => vs = [.int .i64 x]
theorem info_err : (Tryz.prog.info? 34).map (fun i => (i.zero, i.size, i.bytes)) = some (some (.int .i64 0), 1, 8) := by kernel_rfl
noncomputable def wrongs (c : Cfg) : List (Int × Bool) := [(90, windowsBad c), (120, partsBad c.ps), (80, regionsBad c), (121, overlapBad c.ps), (100, channelsBad c)]
noncomputable def errsTo (c : Cfg) (k : Nat) : List Int := (((wrongs c).take k).filter (·.2)).map (·.1)
theorem errsTo_succ (c : Cfg) {k : Nat} {e : Int} {q : Bool} (h : (wrongs c)[k]? = some (e, q)) : errsTo c (k + 1) = if q = true then errsTo c k ++ [e] else errsTo c k := by
 obtain ⟨hk, he⟩ := List.getElem?_eq_some_iff.1 h
 unfold errsTo
 rw [List.take_succ_eq_append_getElem hk, he, List.filter_append, List.map_append]
 cases q <;> simp
theorem errsTo_len (c : Cfg) (k : Nat) : (errsTo c k).length ≤ 5 := by
 unfold errsTo
 rw [List.length_map]
 refine Nat.le_trans (List.length_filter_le _ _) ?_
 rw [List.length_take]
 simp [wrongs]
 omega
end
section
open Go.RowKit
structure CfgR (I : Nat → Prop) (w : World) (c : Cfg) (A1 A2 A3 : Option Addr) (c1 c2 c3 : Nat) : Prop where
 ws : RdL winV I 2 w A1 c.ws
 ps : RdL (pnV I) I 5 w A2 c.ps
 cs : RdL chV I 5 w A3 c.cs
 l1 : c.ws.length ≤ c1 ∧ c1 ≤ maxLen
 l2 : c.ps.length ≤ c2 ∧ c2 ≤ maxLen
 l3 : c.cs.length ≤ c3 ∧ c3 ≤ maxLen
theorem CfgR.non {I : Nat → Prop} {w w' : World} {c : Cfg} {A1 A2 A3 : Option Addr} {c1 c2 c3 : Nat} (h : CfgR I w c A1 A2 A3 c1 c2 c3) (hg : Chg Non w w') : CfgR I w' c A1 A2 A3 c1 c2 c3 :=
 ⟨h.ws.non hg (fun _ _ h => h), h.ps.non hg (fun a vs h => pnV_non _ _ _ _ hg h), h.cs.non hg (fun _ _ h => h), h.l1, h.l2, h.l3⟩
theorem CfgR.box {I : Nat → Prop} {w : World} {c : Cfg} {A1 A2 A3 : Option Addr} {c1 c2 c3 : Nat} (h : CfgR I w c A1 A2 A3 c1 c2 c3) : ∀ W g, Chg Non w W → W.heap[g]? = some (.cells #[.slice A1 c.ws.length c1, .slice A2 c.ps.length c2, .slice A3 c.cs.length c3] 165 (0, 0)) → CfgB I W c g A1 A2 A3 c1 c2 c3 := fun W g hg hb =>
 ⟨hb, (h.non hg).ws, (h.non hg).ps, (h.non hg).cs, h.l1, h.l2, h.l3⟩
def ErrsP (l : List Int) (w : World) (e : Ending) (w' : World) : Prop := ∃ v, e = .returned v ∧ OwnL errV w.heap.size 34 1 w' v l ∧ Chg Non w w'
set_option maxRecDepth 100000 in
theorem vAll_ok (I : Nat → Prop) (w : World) (c : Cfg) (A1 A2 A3 : Option Addr) (c1 c2 c3 : Nat) (h : CfgR I w c A1 A2 A3 c1 c2 c3) (h20 : c.ps.length ≤ 1000) :
  Calls Tryz.prog 189 #[.agg #[.slice A1 c.ws.length c1, .slice A2 c.ps.length c2, .slice A3 c.cs.length c3]] w (ErrsP (errsTo c 5) w) := by
 have HRl := Lib.hid (fun W => rules_ok W)
 have H0 := Lib.hid (fun W (hg : Chg Non w W) => windows_ok I W c A1 A2 A3 c1 c2 c3 (h.non hg).box)
 have H1 := Lib.hid (fun W (hg : Chg Non w W) => parts_ok I W (.slice A1 c.ws.length c1) (.slice A3 c.cs.length c3) A2 c.ps c2 (h.non hg).ps h.l2.1 h.l2.2 rfl rfl)
 have H2 := Lib.hid (fun W (hg : Chg Non w W) => regions_ok I W c (.slice A1 c.ws.length c1) (.slice A3 c.cs.length c3) A2 c2 (h.non hg).ps h.l2.1 h.l2.2 rfl rfl)
 have H3 := Lib.hid (fun W (hg : Chg Non w W) => overlap_ok I W (.slice A1 c.ws.length c1) (.slice A3 c.cs.length c3) A2 c.ps c2 (h.non hg).ps h.l2.1 h.l2.2 h20 rfl rfl)
 have H4 := Lib.hid (fun W (hg : Chg Non w W) => channels_ok I W c A1 A2 A3 c1 c2 c3 (h.non hg).box)
 clear h
 obtain ⟨q0, hq0⟩ : ∃ q, windowsBad c = q := ⟨_, rfl⟩
 obtain ⟨q1, hq1⟩ : ∃ q, partsBad c.ps = q := ⟨_, rfl⟩
 obtain ⟨q2, hq2⟩ : ∃ q, regionsBad c = q := ⟨_, rfl⟩
 obtain ⟨q3, hq3⟩ : ∃ q, overlapBad c.ps = q := ⟨_, rfl⟩
 obtain ⟨q4, hq4⟩ : ∃ q, channelsBad c = q := ⟨_, rfl⟩
 have HW : Hid (wrongs c = [(90, q0), (120, q1), (80, q2), (121, q3), (100, q4)]) := Lib.hid (by rw [wrongs, hq0, hq1, hq2, hq3, hq4])
 simp only [hq0] at H0
 simp only [hq1] at H1
 simp only [hq2] at H2
 simp only [hq3] at H3
 simp only [hq4] at H4
 clear hq0 hq1 hq2 hq3 hq4
 have i0 : ∀ W, (Instr.index 258 (.agg rulesV) (.int .i64 0)).run Tryz.prog W = .ok (.agg #[.int .i64 90, .func (.func 219) #[] #[]]) W := fun _ => by kernel_rfl
 have i1 : ∀ W, (Instr.index 258 (.agg rulesV) (.int .i64 1)).run Tryz.prog W = .ok (.agg #[.int .i64 120, .func (.func 220) #[] #[]]) W := fun _ => by kernel_rfl
 have i2 : ∀ W, (Instr.index 258 (.agg rulesV) (.int .i64 2)).run Tryz.prog W = .ok (.agg #[.int .i64 80, .func (.func 221) #[] #[]]) W := fun _ => by kernel_rfl
 have i3 : ∀ W, (Instr.index 258 (.agg rulesV) (.int .i64 3)).run Tryz.prog W = .ok (.agg #[.int .i64 121, .func (.func 222) #[] #[]]) W := fun _ => by kernel_rfl
 have i4 : ∀ W, (Instr.index 258 (.agg rulesV) (.int .i64 4)).run Tryz.prog W = .ok (.agg #[.int .i64 100, .func (.func 223) #[] #[]]) W := fun _ => by kernel_rfl
 go_enter Tryz.func189, Tryz.ntmps189
 go_wp2_with fail
 refine (HRl.out _).mono ?_
 rintro e u ⟨rfl, hg⟩
 have hb1 := blk_call hg
 have HG0 := Lib.hid (((Chg.refl Non w).alloc _).then_non hg)
 have HB1 := Lib.hid hb1
 clear hg hb1 HRl
 go_wp2_with fail
 go_loopw [7, 3] (fun iv lv wr => ∃ k : Nat, k ≤ 5 ∧ iv = .int .i64 k ∧ Hid (OwnL errV w.heap.size 34 1 wr lv (errsTo c k)) ∧ Hid (wr.heap[w.heap.size]? = some (.cells #[.slice A1 c.ws.length c1, .slice A2 c.ps.length c2, .slice A3 c.cs.length c3] 165 (0, 0))) ∧ Hid (∀ g, lv.ownBlock = some g → w.heap.size < g) ∧ Hid (Chg Non w wr)) (fun iv _ _ => 5 - (intOf iv).toNat)
 case atStart => exact ⟨0, Nat.zero_le _, rfl, Lib.hid (OwnL.nil _ _ _ _ _), HB1, Lib.hid (fun g e => by simp [Value.ownBlock] at e), HG0⟩
 case round =>
  obtain ⟨k, hk, rfl, HO, HB, HX, HG⟩ := hrel
  have b0 := blk_cell HB.out 0 (v := .slice A1 c.ws.length c1) rfl
  have b1 := blk_cell HB.out 1 (v := .slice A2 c.ps.length c2) rfl
  have b2 := blk_cell HB.out 2 (v := .slice A3 c.cs.length c3) rfl
  have hwl := blk_lt HB.out
  by_cases hlt : k < 5
  ·have : k = 0 ∨ k = 1 ∨ k = 2 ∨ k = 3 ∨ k = 4 := by omega
   rcases this with rfl | rfl | rfl | rfl | rfl
   ·have HS := Lib.hid (fun h => errsTo_succ c (k := 0) (e := 90) (q := q0) h)
    have HS := Lib.hid (HS.out (by rw [HW.out]; rfl))
    clear H1 i1 H2 i2 H3 i3 H4 i4
    go_wp2_with (refine sel none (.store 257 (.tmp 5) (.tmp 9)) ?_
                 refine wpList_store_rowA rfl 257 (.tmp 5) (.tmp 9) rfl wr.heap.size #[.int .i64 90, .func (.func 219) #[] #[]] rfl rfl 257 _ (blk_new _ _) (by kernel_rfl) rfl (by simp [Value.oneCell']) ?_
                 intro V hgV hbV
                 have hgnV : Chg Non wr V := ((Chg.refl Non wr).alloc _).then_new hgV (fun x e => by omega)
                 have b0 := blk_cell (blk_keep HB.out hgnV (fun e => e)) 0 (v := .slice A1 c.ws.length c1) rfl
                 have b1 := blk_cell (blk_keep HB.out hgnV (fun e => e)) 1 (v := .slice A2 c.ps.length c2) rfl
                 have b2 := blk_cell (blk_keep HB.out hgnV (fun e => e)) 2 (v := .slice A3 c.cs.length c3) rfl
                 have z1 := blk_cell hbV 1 (v := .func (.func 219) #[] #[]) rfl
                 have HbV := Lib.hid hbV
                 have HgV := Lib.hid hgnV
                 clear hgV hbV hgnV)
    refine (H0.out _ (HG.out.then_non HgV.out)).mono ?_
    rintro e v ⟨rfl, hg⟩
    have hv0 := blk_keep HbV.out hg (fun e => e)
    have m0 := blk_cell hv0 0 (v := .int .i64 90) rfl
    have HGv := Lib.hid ((HG.out.then_non HgV.out).then_non hg)
    have hgn := HgV.out.then_non hg
    have HBv := Lib.hid (blk_keep HB.out hgn (fun e => e))
    have HOv := Lib.hid (HO.out.non hgn (fun _ _ h => h))
    clear hg hv0 hgn b0 b1 b2
    cases q0 with
    | false =>
     have HO2 : Hid (OwnL errV w.heap.size 34 1 v u3 (errsTo c 1)) := Lib.hid (by rw [HS.out]; exact HOv.out)
     go_wp2_with fail
     exact ⟨⟨1, by omega, by simp, HO2, HBv, HX, HGv⟩, by simp [intOf]⟩
    | true =>
     go_wp2_with (refine sel (some 18) (.call _) ?_; refine Vm_stop ?_)
     refine HoleV.mk ?_
     refine wpList_snocL errV rfl (.tmp 14) (.tmp 17) 239 rfl w.heap.size 34 (.int .i64 0) 1 8 Tryz.underlying239 info_err rfl (by omega) u3 (errsTo c 0) rfl (HOv.out.non ((Chg.refl Non v).alloc _) (fun _ _ h => h)) v.heap.size 90 #[.int .i64 90] 34 rfl (blk_new _ _) rfl (by simp [Value.oneCell']) (by have := errsTo_len c 0; omega) (by omega) (by have := HGv.out.size; simp; omega) (fun _ _ _ _ h => h) rfl ?_
     intro v2 w2 ho hg hv
     have hne : ¬ (u3.ownBlock = some w.heap.size) := fun e => by have := HX.out _ e; omega
     have HO2 : Hid (OwnL errV w.heap.size 34 1 w2 v2 (errsTo c 1)) := Lib.hid (by rw [HS.out, if_pos (by trivial)]; exact ho)
     have HG2 : Hid (Chg Non w w2) := Lib.hid ((HGv.out.alloc _).then_new hg (fun x e => (HOv.out.ge e).1))
     have HB2 := Lib.hid (blk_keep (blk_keep HBv.out ((Chg.refl Non v).alloc _) (fun e => e)) hg hne)
     have HX2 : Hid (∀ g, v2.ownBlock = some g → w.heap.size < g) := Lib.hid (fun g e => by
       rcases hv g e with h | h
       · exact HX.out g h
       · have := blk_lt HBv.out
         simp at h
         omega)
     clear ho hg hv hne
     go_wp2_with fail
     exact ⟨⟨1, by omega, by simp, HO2, HB2, HX2, HG2⟩, by simp [intOf]⟩
   ·have HS := Lib.hid (fun h => errsTo_succ c (k := 1) (e := 120) (q := q1) h)
    have HS := Lib.hid (HS.out (by rw [HW.out]; rfl))
    clear H0 i0 H2 i2 H3 i3 H4 i4
    go_wp2_with (refine sel none (.store 257 (.tmp 5) (.tmp 9)) ?_
                 refine wpList_store_rowA rfl 257 (.tmp 5) (.tmp 9) rfl wr.heap.size #[.int .i64 120, .func (.func 220) #[] #[]] rfl rfl 257 _ (blk_new _ _) (by kernel_rfl) rfl (by simp [Value.oneCell']) ?_
                 intro V hgV hbV
                 have hgnV : Chg Non wr V := ((Chg.refl Non wr).alloc _).then_new hgV (fun x e => by omega)
                 have b0 := blk_cell (blk_keep HB.out hgnV (fun e => e)) 0 (v := .slice A1 c.ws.length c1) rfl
                 have b1 := blk_cell (blk_keep HB.out hgnV (fun e => e)) 1 (v := .slice A2 c.ps.length c2) rfl
                 have b2 := blk_cell (blk_keep HB.out hgnV (fun e => e)) 2 (v := .slice A3 c.cs.length c3) rfl
                 have z1 := blk_cell hbV 1 (v := .func (.func 220) #[] #[]) rfl
                 have HbV := Lib.hid hbV
                 have HgV := Lib.hid hgnV
                 clear hgV hbV hgnV)
    refine (H1.out _ (HG.out.then_non HgV.out)).mono ?_
    rintro e v ⟨rfl, hg⟩
    have hv0 := blk_keep HbV.out hg (fun e => e)
    have m0 := blk_cell hv0 0 (v := .int .i64 120) rfl
    have HGv := Lib.hid ((HG.out.then_non HgV.out).then_non hg)
    have hgn := HgV.out.then_non hg
    have HBv := Lib.hid (blk_keep HB.out hgn (fun e => e))
    have HOv := Lib.hid (HO.out.non hgn (fun _ _ h => h))
    clear hg hv0 hgn b0 b1 b2
    cases q1 with
    | false =>
     have HO2 : Hid (OwnL errV w.heap.size 34 1 v u3 (errsTo c 2)) := Lib.hid (by rw [HS.out]; exact HOv.out)
     go_wp2_with fail
     exact ⟨⟨2, by omega, by simp, HO2, HBv, HX, HGv⟩, by simp [intOf]⟩
    | true =>
     go_wp2_with (refine sel (some 18) (.call _) ?_; refine Vm_stop ?_)
     refine HoleV.mk ?_
     refine wpList_snocL errV rfl (.tmp 14) (.tmp 17) 239 rfl w.heap.size 34 (.int .i64 0) 1 8 Tryz.underlying239 info_err rfl (by omega) u3 (errsTo c 1) rfl (HOv.out.non ((Chg.refl Non v).alloc _) (fun _ _ h => h)) v.heap.size 120 #[.int .i64 120] 34 rfl (blk_new _ _) rfl (by simp [Value.oneCell']) (by have := errsTo_len c 1; omega) (by omega) (by have := HGv.out.size; simp; omega) (fun _ _ _ _ h => h) rfl ?_
     intro v2 w2 ho hg hv
     have hne : ¬ (u3.ownBlock = some w.heap.size) := fun e => by have := HX.out _ e; omega
     have HO2 : Hid (OwnL errV w.heap.size 34 1 w2 v2 (errsTo c 2)) := Lib.hid (by rw [HS.out, if_pos (by trivial)]; exact ho)
     have HG2 : Hid (Chg Non w w2) := Lib.hid ((HGv.out.alloc _).then_new hg (fun x e => (HOv.out.ge e).1))
     have HB2 := Lib.hid (blk_keep (blk_keep HBv.out ((Chg.refl Non v).alloc _) (fun e => e)) hg hne)
     have HX2 : Hid (∀ g, v2.ownBlock = some g → w.heap.size < g) := Lib.hid (fun g e => by
       rcases hv g e with h | h
       · exact HX.out g h
       · have := blk_lt HBv.out
         simp at h
         omega)
     clear ho hg hv hne
     go_wp2_with fail
     exact ⟨⟨2, by omega, by simp, HO2, HB2, HX2, HG2⟩, by simp [intOf]⟩
   ·have HS := Lib.hid (fun h => errsTo_succ c (k := 2) (e := 80) (q := q2) h)
    have HS := Lib.hid (HS.out (by rw [HW.out]; rfl))
    clear H0 i0 H1 i1 H3 i3 H4 i4
    go_wp2_with (refine sel none (.store 257 (.tmp 5) (.tmp 9)) ?_
                 refine wpList_store_rowA rfl 257 (.tmp 5) (.tmp 9) rfl wr.heap.size #[.int .i64 80, .func (.func 221) #[] #[]] rfl rfl 257 _ (blk_new _ _) (by kernel_rfl) rfl (by simp [Value.oneCell']) ?_
                 intro V hgV hbV
                 have hgnV : Chg Non wr V := ((Chg.refl Non wr).alloc _).then_new hgV (fun x e => by omega)
                 have b0 := blk_cell (blk_keep HB.out hgnV (fun e => e)) 0 (v := .slice A1 c.ws.length c1) rfl
                 have b1 := blk_cell (blk_keep HB.out hgnV (fun e => e)) 1 (v := .slice A2 c.ps.length c2) rfl
                 have b2 := blk_cell (blk_keep HB.out hgnV (fun e => e)) 2 (v := .slice A3 c.cs.length c3) rfl
                 have z1 := blk_cell hbV 1 (v := .func (.func 221) #[] #[]) rfl
                 have HbV := Lib.hid hbV
                 have HgV := Lib.hid hgnV
                 clear hgV hbV hgnV)
    refine (H2.out _ (HG.out.then_non HgV.out)).mono ?_
    rintro e v ⟨rfl, hg⟩
    have hv0 := blk_keep HbV.out hg (fun e => e)
    have m0 := blk_cell hv0 0 (v := .int .i64 80) rfl
    have HGv := Lib.hid ((HG.out.then_non HgV.out).then_non hg)
    have hgn := HgV.out.then_non hg
    have HBv := Lib.hid (blk_keep HB.out hgn (fun e => e))
    have HOv := Lib.hid (HO.out.non hgn (fun _ _ h => h))
    clear hg hv0 hgn b0 b1 b2
    cases q2 with
    | false =>
     have HO2 : Hid (OwnL errV w.heap.size 34 1 v u3 (errsTo c 3)) := Lib.hid (by rw [HS.out]; exact HOv.out)
     go_wp2_with fail
     exact ⟨⟨3, by omega, by simp, HO2, HBv, HX, HGv⟩, by simp [intOf]⟩
    | true =>
     go_wp2_with (refine sel (some 18) (.call _) ?_; refine Vm_stop ?_)
     refine HoleV.mk ?_
     refine wpList_snocL errV rfl (.tmp 14) (.tmp 17) 239 rfl w.heap.size 34 (.int .i64 0) 1 8 Tryz.underlying239 info_err rfl (by omega) u3 (errsTo c 2) rfl (HOv.out.non ((Chg.refl Non v).alloc _) (fun _ _ h => h)) v.heap.size 80 #[.int .i64 80] 34 rfl (blk_new _ _) rfl (by simp [Value.oneCell']) (by have := errsTo_len c 2; omega) (by omega) (by have := HGv.out.size; simp; omega) (fun _ _ _ _ h => h) rfl ?_
     intro v2 w2 ho hg hv
     have hne : ¬ (u3.ownBlock = some w.heap.size) := fun e => by have := HX.out _ e; omega
     have HO2 : Hid (OwnL errV w.heap.size 34 1 w2 v2 (errsTo c 3)) := Lib.hid (by rw [HS.out, if_pos (by trivial)]; exact ho)
     have HG2 : Hid (Chg Non w w2) := Lib.hid ((HGv.out.alloc _).then_new hg (fun x e => (HOv.out.ge e).1))
     have HB2 := Lib.hid (blk_keep (blk_keep HBv.out ((Chg.refl Non v).alloc _) (fun e => e)) hg hne)
     have HX2 : Hid (∀ g, v2.ownBlock = some g → w.heap.size < g) := Lib.hid (fun g e => by
       rcases hv g e with h | h
       · exact HX.out g h
       · have := blk_lt HBv.out
         simp at h
         omega)
     clear ho hg hv hne
     go_wp2_with fail
     exact ⟨⟨3, by omega, by simp, HO2, HB2, HX2, HG2⟩, by simp [intOf]⟩
   ·have HS := Lib.hid (fun h => errsTo_succ c (k := 3) (e := 121) (q := q3) h)
    have HS := Lib.hid (HS.out (by rw [HW.out]; rfl))
    clear H0 i0 H1 i1 H2 i2 H4 i4
    go_wp2_with (refine sel none (.store 257 (.tmp 5) (.tmp 9)) ?_
                 refine wpList_store_rowA rfl 257 (.tmp 5) (.tmp 9) rfl wr.heap.size #[.int .i64 121, .func (.func 222) #[] #[]] rfl rfl 257 _ (blk_new _ _) (by kernel_rfl) rfl (by simp [Value.oneCell']) ?_
                 intro V hgV hbV
                 have hgnV : Chg Non wr V := ((Chg.refl Non wr).alloc _).then_new hgV (fun x e => by omega)
                 have b0 := blk_cell (blk_keep HB.out hgnV (fun e => e)) 0 (v := .slice A1 c.ws.length c1) rfl
                 have b1 := blk_cell (blk_keep HB.out hgnV (fun e => e)) 1 (v := .slice A2 c.ps.length c2) rfl
                 have b2 := blk_cell (blk_keep HB.out hgnV (fun e => e)) 2 (v := .slice A3 c.cs.length c3) rfl
                 have z1 := blk_cell hbV 1 (v := .func (.func 222) #[] #[]) rfl
                 have HbV := Lib.hid hbV
                 have HgV := Lib.hid hgnV
                 clear hgV hbV hgnV)
    refine (H3.out _ (HG.out.then_non HgV.out)).mono ?_
    rintro e v ⟨rfl, hg⟩
    have hv0 := blk_keep HbV.out hg (fun e => e)
    have m0 := blk_cell hv0 0 (v := .int .i64 121) rfl
    have HGv := Lib.hid ((HG.out.then_non HgV.out).then_non hg)
    have hgn := HgV.out.then_non hg
    have HBv := Lib.hid (blk_keep HB.out hgn (fun e => e))
    have HOv := Lib.hid (HO.out.non hgn (fun _ _ h => h))
    clear hg hv0 hgn b0 b1 b2
    cases q3 with
    | false =>
     have HO2 : Hid (OwnL errV w.heap.size 34 1 v u3 (errsTo c 4)) := Lib.hid (by rw [HS.out]; exact HOv.out)
     go_wp2_with fail
     exact ⟨⟨4, by omega, by simp, HO2, HBv, HX, HGv⟩, by simp [intOf]⟩
    | true =>
     go_wp2_with (refine sel (some 18) (.call _) ?_; refine Vm_stop ?_)
     refine HoleV.mk ?_
     refine wpList_snocL errV rfl (.tmp 14) (.tmp 17) 239 rfl w.heap.size 34 (.int .i64 0) 1 8 Tryz.underlying239 info_err rfl (by omega) u3 (errsTo c 3) rfl (HOv.out.non ((Chg.refl Non v).alloc _) (fun _ _ h => h)) v.heap.size 121 #[.int .i64 121] 34 rfl (blk_new _ _) rfl (by simp [Value.oneCell']) (by have := errsTo_len c 3; omega) (by omega) (by have := HGv.out.size; simp; omega) (fun _ _ _ _ h => h) rfl ?_
     intro v2 w2 ho hg hv
     have hne : ¬ (u3.ownBlock = some w.heap.size) := fun e => by have := HX.out _ e; omega
     have HO2 : Hid (OwnL errV w.heap.size 34 1 w2 v2 (errsTo c 4)) := Lib.hid (by rw [HS.out, if_pos (by trivial)]; exact ho)
     have HG2 : Hid (Chg Non w w2) := Lib.hid ((HGv.out.alloc _).then_new hg (fun x e => (HOv.out.ge e).1))
     have HB2 := Lib.hid (blk_keep (blk_keep HBv.out ((Chg.refl Non v).alloc _) (fun e => e)) hg hne)
     have HX2 : Hid (∀ g, v2.ownBlock = some g → w.heap.size < g) := Lib.hid (fun g e => by
       rcases hv g e with h | h
       · exact HX.out g h
       · have := blk_lt HBv.out
         simp at h
         omega)
     clear ho hg hv hne
     go_wp2_with fail
     exact ⟨⟨4, by omega, by simp, HO2, HB2, HX2, HG2⟩, by simp [intOf]⟩
   ·have HS := Lib.hid (fun h => errsTo_succ c (k := 4) (e := 100) (q := q4) h)
    have HS := Lib.hid (HS.out (by rw [HW.out]; rfl))
    clear H0 i0 H1 i1 H2 i2 H3 i3
    go_wp2_with (refine sel none (.store 257 (.tmp 5) (.tmp 9)) ?_
                 refine wpList_store_rowA rfl 257 (.tmp 5) (.tmp 9) rfl wr.heap.size #[.int .i64 100, .func (.func 223) #[] #[]] rfl rfl 257 _ (blk_new _ _) (by kernel_rfl) rfl (by simp [Value.oneCell']) ?_
                 intro V hgV hbV
                 have hgnV : Chg Non wr V := ((Chg.refl Non wr).alloc _).then_new hgV (fun x e => by omega)
                 have b0 := blk_cell (blk_keep HB.out hgnV (fun e => e)) 0 (v := .slice A1 c.ws.length c1) rfl
                 have b1 := blk_cell (blk_keep HB.out hgnV (fun e => e)) 1 (v := .slice A2 c.ps.length c2) rfl
                 have b2 := blk_cell (blk_keep HB.out hgnV (fun e => e)) 2 (v := .slice A3 c.cs.length c3) rfl
                 have z1 := blk_cell hbV 1 (v := .func (.func 223) #[] #[]) rfl
                 have HbV := Lib.hid hbV
                 have HgV := Lib.hid hgnV
                 clear hgV hbV hgnV)
    refine (H4.out _ (HG.out.then_non HgV.out)).mono ?_
    rintro e v ⟨rfl, hg⟩
    have hv0 := blk_keep HbV.out hg (fun e => e)
    have m0 := blk_cell hv0 0 (v := .int .i64 100) rfl
    have HGv := Lib.hid ((HG.out.then_non HgV.out).then_non hg)
    have hgn := HgV.out.then_non hg
    have HBv := Lib.hid (blk_keep HB.out hgn (fun e => e))
    have HOv := Lib.hid (HO.out.non hgn (fun _ _ h => h))
    clear hg hv0 hgn b0 b1 b2
    cases q4 with
    | false =>
     have HO2 : Hid (OwnL errV w.heap.size 34 1 v u3 (errsTo c 5)) := Lib.hid (by rw [HS.out]; exact HOv.out)
     go_wp2_with fail
     exact ⟨⟨5, by omega, by simp, HO2, HBv, HX, HGv⟩, by simp [intOf]⟩
    | true =>
     go_wp2_with (refine sel (some 18) (.call _) ?_; refine Vm_stop ?_)
     refine HoleV.mk ?_
     refine wpList_snocL errV rfl (.tmp 14) (.tmp 17) 239 rfl w.heap.size 34 (.int .i64 0) 1 8 Tryz.underlying239 info_err rfl (by omega) u3 (errsTo c 4) rfl (HOv.out.non ((Chg.refl Non v).alloc _) (fun _ _ h => h)) v.heap.size 100 #[.int .i64 100] 34 rfl (blk_new _ _) rfl (by simp [Value.oneCell']) (by have := errsTo_len c 4; omega) (by omega) (by have := HGv.out.size; simp; omega) (fun _ _ _ _ h => h) rfl ?_
     intro v2 w2 ho hg hv
     have hne : ¬ (u3.ownBlock = some w.heap.size) := fun e => by have := HX.out _ e; omega
     have HO2 : Hid (OwnL errV w.heap.size 34 1 w2 v2 (errsTo c 5)) := Lib.hid (by rw [HS.out, if_pos (by trivial)]; exact ho)
     have HG2 : Hid (Chg Non w w2) := Lib.hid ((HGv.out.alloc _).then_new hg (fun x e => (HOv.out.ge e).1))
     have HB2 := Lib.hid (blk_keep (blk_keep HBv.out ((Chg.refl Non v).alloc _) (fun e => e)) hg hne)
     have HX2 : Hid (∀ g, v2.ownBlock = some g → w.heap.size < g) := Lib.hid (fun g e => by
       rcases hv g e with h | h
       · exact HX.out g h
       · have := blk_lt HBv.out
         simp at h
         omega)
     clear ho hg hv hne
     go_wp2_with fail
     exact ⟨⟨5, by omega, by simp, HO2, HB2, HX2, HG2⟩, by simp [intOf]⟩
  ·obtain rfl : k = 5 := by omega
   go_wp2_with fail
   go_ret
   exact ⟨_, rfl, HO.out, HG.out⟩
noncomputable def vCheck (c : Cfg) : Int := (errsTo c 5).headD 0
set_option maxRecDepth 100000 in
theorem vCheck_ok (I : Nat → Prop) (w : World) (c : Cfg) (A1 A2 A3 : Option Addr) (c1 c2 c3 : Nat) (h : CfgR I w c A1 A2 A3 c1 c2 c3) (h20 : c.ps.length ≤ 1000) :
  Calls Tryz.prog 156 #[.agg #[.slice A1 c.ws.length c1, .slice A2 c.ps.length c2, .slice A3 c.cs.length c3]] w fun e w' => e = .returned (.int .i64 (vCheck c)) ∧ Chg Non w w' := by
 have HA := Lib.hid (fun W (hg : Chg Non w W) => vAll_ok I W c A1 A2 A3 c1 c2 c3 (h.non hg) h20)
 have HE : Hid (vCheck c = (errsTo c 5).headD 0) := Lib.hid rfl
 clear h
 go_enter Tryz.func156, Tryz.ntmps156
 go_wp2_with fail
 refine (HA.out _ ((Chg.refl Non w).alloc _)).mono ?_
 rintro e u ⟨v, rfl, ho, hg⟩
 obtain ⟨A, cc, rfl, h1, h2, hr⟩ := ho.rd
 have HR := Lib.hid hr
 have HG := Lib.hid (((Chg.refl Non w).alloc _).then_non hg)
 clear ho hr hg h2 HA
 obtain ⟨l, hl⟩ : ∃ l, errsTo c 5 = l := ⟨_, rfl⟩
 rw [hl] at HE HR h1 ⊢
 clear hl
 go_wp2_with fail
 go_loopw [8] (fun iv wr => iv = .int .i64 0 ∧ wr = u) (fun _ _ => 0)
 case atStart => exact ⟨rfl, rfl⟩
 case round =>
  obtain ⟨rfl, rfl⟩ := hrel
  cases l with
  | nil =>
   go_wp2_with fail
   go_ret
   exact ⟨ret_i HE.out.symm, HG.out⟩
  | cons x t =>
   obtain ⟨b, o, vs, rfl, _, hlen, hcell, rfl⟩ := HR.out 0 x rfl
   have k0 : wr.cell? ⟨b, o, none⟩ = some (.int .i64 x) := by have := hcell 0 _ rfl; simpa using this
   clear hcell hlen
   go_wp2_with fail
   go_ret
   exact ⟨ret_i HE.out.symm, HG.out⟩
noncomputable def fitsB (c : Cfg) : Bool := vCheck c == 0
set_option maxRecDepth 100000 in
theorem fits_ok (I : Nat → Prop) (w : World) (c : Cfg) (A1 A2 A3 : Option Addr) (c1 c2 c3 : Nat) (h : CfgR I w c A1 A2 A3 c1 c2 c3) (h20 : c.ps.length ≤ 1000) :
  Calls Tryz.prog 133 #[.agg #[.slice A1 c.ws.length c1, .slice A2 c.ps.length c2, .slice A3 c.cs.length c3]] w fun e w' => e = .returned (.bool (fitsB c)) ∧ Chg Non w w' := by
 have HA := Lib.hid (fun W (hg : Chg Non w W) => vCheck_ok I W c A1 A2 A3 c1 c2 c3 (h.non hg) h20)
 have HE : Hid (fitsB c = (vCheck c == 0)) := Lib.hid rfl
 obtain ⟨e0, he⟩ : ∃ e, vCheck c = e := ⟨_, rfl⟩
 simp only [he] at HA HE
 clear h he
 go_enter Tryz.func133, Tryz.ntmps133
 go_wp2_with fail
 refine (HA.out _ ((Chg.refl Non w).alloc _)).mono ?_
 rintro e u ⟨rfl, hg⟩
 go_wp2_with fail
 go_ret
 exact ⟨ret_b HE.out.symm, ((Chg.refl Non w).alloc _).then_non hg⟩
theorem fits_iff {c : Cfg} : fitsB c = true ↔ windowsBad c = false ∧ partsBad c.ps = false ∧ regionsBad c = false ∧ overlapBad c.ps = false ∧ channelsBad c = false := by
 unfold fitsB vCheck errsTo wrongs
 cases windowsBad c <;> cases partsBad c.ps <;> cases regionsBad c <;> cases overlapBad c.ps <;> cases channelsBad c <;> simp
end
end Go.Proofs.YtkgnlobabknkcaaGreat
