/- CheckPlays, part 15 of 27: contracts of the functions that it reaches, and the laws that they need, merged and shortened (from my texts XStR, XStS, XStT). -/
import Derived.Test.YtkgnlobabknkcaaGreatMgCheckPlaysA
import Derived.Test.YtkgnlobabknkcaaGreatMgCheckPlaysB
import Derived.Test.YtkgnlobabknkcaaGreatMgCheckPlaysM
namespace Go.Proofs.YtkgnlobabknkcaaGreat
set_option linter.unusedVariables false
set_option linter.unusedSimpArgs false
set_option maxHeartbeats 8000000
set_option maxRecDepth 100000
section
open Go.RowKit
def T2 (p q : Nat) : Nat → Prop := fun k => k = p ∨ k = q
structure IsSR (S : Nat) (w : World) (q p : Nat) (r : Rs) : Prop where
 rb : IsRB S w p r.l r.er
 at_ : w.heap[q]? = some (.cells #[.pointer (some ⟨p, 0, none⟩), .bool r.wide] 203 (0, 0))
 pS : p < S
 Sq : S ≤ q
namespace IsSR
variable {S q p : Nat} {w w' : World} {r : Rs}
theorem keep {T : Nat → Prop} (h : IsSR S w q p r) (hg : Chg T w w') (hp : ∀ b, b < S → ¬ T b) (hq : ¬ T q) : IsSR S w' q p r :=
 ⟨h.rb.keep hg (hp p h.pS) hp, blk_keep h.at_ hg hq, h.pS, h.Sq⟩
theorem non (h : IsSR S w q p r) (hg : Chg Non w w') : IsSR S w' q p r := h.keep hg (fun _ _ e => e) (fun e => e)
theorem lt (h : IsSR S w q p r) : q < w.heap.size := blk_lt h.at_
theorem step {l : List UInt8} {er : Int} (h : IsSR S w q p r) (hb : IsRB S w' p l er) (hg : Chg (At p) w w') : IsSR S w' q p { r with l := l, er := er } :=
 ⟨hb, blk_keep h.at_ hg (fun e => by have e : q = p := e; have := h.pS; have := h.Sq; omega), h.pS, h.Sq⟩
theorem cells (h : IsSR S w q p r) : w.cell? ⟨q, 0, none⟩ = some (.pointer (some ⟨p, 0, none⟩)) ∧ w.cell? ⟨q, 1, none⟩ = some (.bool r.wide) ∧ w.frozen? ⟨q, 1, none⟩ = false :=
 ⟨blk_cell h.at_ 0 rfl, blk_cell h.at_ 1 rfl, blk_free h.at_ 1⟩
end IsSR
theorem T2.at_ {p q : Nat} {a b : World} (k : Chg (At p) a b) : Chg (T2 p q) a b := k.mono (fun x e => .inl e)
theorem word_ok (S q p : Nat) (r : Rs) (w : World) (h : IsSR S w q p r) :
  Calls Tryz.prog 179 #[.pointer (some ⟨q, 0, none⟩)] w fun e w' => e = .returned (.int .u32 (r.word.1 : Nat)) ∧ IsSR S w' q p r.word.2 ∧ Chg (T2 p q) w w' := by
 have HI := Lh (RInt_B S p r.l r.er w h.rb)
 obtain ⟨k0, k1, _⟩ := h.cells
 have HS := Lh (fun w' l er => h.step (w' := w') (l := l) (er := er))
 have HW : Hid (r.word = (((rdInt r.l r.er).1 % 4294967296).toNat, ⟨(rdInt r.l r.er).2.1, (rdInt r.l r.er).2.2, r.wide || decide ((rdInt r.l r.er).1 < 0) || decide (4294967296 ≤ (rdInt r.l r.er).1)⟩)) := Lh rfl
 obtain ⟨⟨x, l', er'⟩, hq⟩ : ∃ y, rdInt r.l r.er = y := ⟨_, rfl⟩
 rw [hq] at HI HW
 simp only at HI HW
 clear h hq
 go_enter Tryz.func179, Tryz.ntmps179
 go_wp2_with fail
 refine HI.out.mono ?_
 rintro e w1 ⟨rfl, hb, hg⟩
 have hs := HS.out w1 l' er' hb hg
 obtain ⟨m0, m1, mf⟩ := hs.cells
 have HS1 := Lh hs
 have HG := Lh hg
 clear hs hb hg HS k0 k1 HI
 obtain ⟨l, er, wd⟩ := r
 simp only at m1 HS1 HW
 have hz : ((x % 4294967296).toNat : Int) = x % 4294967296 := by omega
 have HZ := Lh hz
 clear hz
 have HEnd : Hid (∀ b, b = (wd || decide (x < 0) || decide (4294967296 ≤ x)) → IsSR S (w1.setCell ⟨q, 1, none⟩ (.bool b)) q p (Rs.word ⟨l, er, wd⟩).2 ∧ Chg (T2 p q) w (w1.setCell ⟨q, 1, none⟩ (.bool b))) := Lh (fun b hb => by
   have hst := setAt w1 q 1 (.bool b)
   have hsq := HS1.out
   refine ⟨?_, (T2.at_ HG.out).trans_same (hst.mono (fun x e => .inr e))⟩
   rw [HW.out, ← hb]
   exact ⟨hsq.rb.keep hst (fun e => by have e : p = q := e; have := hsq.pS; have := hsq.Sq; omega) (fun y hy e => by have e : y = q := e; have := hsq.Sq; omega), blk_set 1 _ hsq.at_, hsq.pS, hsq.Sq⟩)
 have HRet : Hid (Value.int .u32 (x % 4294967296) = Value.int .u32 ((Rs.word ⟨l, er, wd⟩).1 : Nat)) := Lh (by rw [HW.out]; show _ = Value.int .u32 ((x % 4294967296).toNat : Int); rw [HZ.out])
 clear HS1 HW HG HZ
 cases wd with
 | true =>
  go_wp2_with fail
  go_ret
  exact ⟨congrArg Ending.returned HRet.out, HEnd.out true (by simp)⟩
 | false =>
  by_cases h0 : x < 0
  ·have d0 : decide (x < 0) = true := by simpa using h0
   have h := Lh (HEnd.out true (by rw [d0]; simp))
   clear h0
   go_wp2_with fail
   go_ret
   exact ⟨congrArg Ending.returned HRet.out, h.out⟩
  ·have d0 : decide (x < 0) = false := by simpa using h0
   have h := Lh (HEnd.out (x / 4294967296 != 0) (by
     rw [d0, Bool.eq_iff_iff]
     simp only [Bool.or_self, Bool.false_or, bne_iff_ne, decide_eq_true_eq]
     omega))
   have HX := Lh h0
   clear h0 HEnd
   go_wp2_with fail
   go_ret
   exact ⟨congrArg Ending.returned HRet.out, h.out⟩
theorem many_succ {α : Type} (f : Rs → α × Rs) : ∀ (k : Nat) (s : Rs), (Rs.many f (k + 1) s).1 = (Rs.many f k s).1 ++ [(f (Rs.many f k s).2).1] ∧ (Rs.many f (k + 1) s).2 = (f (Rs.many f k s).2).2
 | 0, s => ⟨rfl, rfl⟩
 | k + 1, s => by
  have ih := many_succ f k (f s).2
  refine ⟨?_, ?_⟩
  ·show (f s).1 :: (Rs.many f (k + 1) (f s).2).1 = ((f s).1 :: (Rs.many f k (f s).2).1) ++ _
   rw [ih.1]; rfl
  ·show (Rs.many f (k + 1) (f s).2).2 = _
   rw [ih.2]; rfl
theorem many_len {α : Type} (f : Rs → α × Rs) : ∀ (k : Nat) (s : Rs), (Rs.many f k s).1.length = k
 | 0, s => rfl
 | k + 1, s => by
  show ((f s).1 :: (Rs.many f k (f s).2).1).length = k + 1
  rw [List.length_cons, many_len f k]
theorem count_bd (top : Nat) (l : List UInt8) (er : Int) : 0 ≤ (rdCount top l er).1 ∧ (rdCount top l er).1 ≤ top := by
 unfold rdCount
 split
 ·split
  ·split
   ·rename_i h; simp only; omega
   ·simp
  ·simp
 ·simp
def Gets {α : Type} (RI : (Nat → Prop) → World → α → List Value → Prop) (V : Array Value → Value) (sz S q p : Nat) (f : Rs → α × Rs) (K : FuncId) (z : Value) : Prop :=
 ∀ (W : World) (r : Rs), IsSR S W q p r → Calls Tryz.prog K #[z] W fun e W' => ∃ C : Array Value, e = .returned (V C) ∧ C.size = sz ∧ C.all (·.oneCell') = true ∧ RI (From W.heap.size) W' (f r).1 C.toList ∧ IsSR S W' q p (f r).2 ∧ Chg (T2 p q) W W'
structure Rel {α : Type} (RI : (Nat → Prop) → World → α → List Value → Prop) : Prop where
 keep : ∀ (I S : Nat → Prop) (W W' : World) (a : α) (vs : List Value), Chg S W W' → (∀ b, I b → ¬ S b) → RI I W a vs → RI I W' a vs
 mono : ∀ (I I' : Nat → Prop) (W : World) (a : α) (vs : List Value), (∀ b, I b → I' b) → RI I W a vs → RI I' W a vs
 bound : ∀ (I : Nat → Prop) (W : World) (a : α) (vs : List Value), RI I W a vs → RI (fun b => I b ∧ b < W.heap.size) W a vs
theorem relPt : Rel ptV := ⟨fun _ _ _ _ _ _ hg hn h => h.keep hg hn, fun _ _ _ _ _ h h2 => h2.mono h, fun _ _ _ _ h => h.bound⟩
theorem relQu : Rel quV := ⟨fun _ _ _ _ _ _ hg hn h => h.keep hg hn, fun _ _ _ _ _ h h2 => h2.mono h, fun _ _ _ _ h => h.bound⟩
theorem relMsg : Rel msgV := ⟨fun _ _ _ _ _ _ hg hn h => h.keep hg hn, fun _ _ _ _ _ h h2 => h2.mono h, fun _ _ _ _ h => h.bound⟩
theorem fold_set0 (L : List Value) (j : Nat) (C : Array Value) (i : Nat) :
  (List.foldl (fun (cs : Array Value) (x : Value × Nat) => cs.setIfInBounds x.2 x.1) C (L.zipIdx j))[i]? = if j ≤ i ∧ i < j + L.length ∧ i < C.size then L[i - j]? else C[i]? := by
 induction L generalizing j C with
 | nil => simp; omega
 | cons v r ih =>
  rw [List.zipIdx_cons, List.foldl_cons, ih]
  simp only [Array.size_setIfInBounds, List.length_cons]
  by_cases h1 : j + 1 ≤ i ∧ i < j + 1 + r.length ∧ i < C.size
  ·rw [if_pos h1, if_pos (by omega), show i - j = (i - (j + 1)) + 1 by omega, List.getElem?_cons_succ]
  ·rw [if_neg h1, Array.getElem?_setIfInBounds]
   by_cases h2 : j = i
   ·subst h2
    by_cases h3 : j < C.size
    ·rw [if_pos rfl, if_pos h3, if_pos (by omega), Nat.sub_self]; rfl
    ·rw [if_pos rfl, if_neg h3, if_neg (by omega), Array.getElem?_eq_none (by omega)]
   ·rw [if_neg h2, if_neg (by omega)]
theorem fold_all (Z C : Array Value) (n : Nat) (hz : Z.size = n) (hc : C.size = n) : Array.foldl (fun (cs : Array Value) (x : Value × Nat) => cs.setIfInBounds x.2 x.1) Z C.zipIdx 0 n = C := by
 have e : n = C.zipIdx.size := by simp [hc]
 rw [e, ← Array.foldl_toList, Array.toList_zipIdx]
 apply Array.ext_getElem?
 intro i
 rw [fold_set0, hz]
 by_cases hi : i < n
 ·rw [if_pos (by rw [Array.length_toList]; omega), Nat.sub_zero, Array.getElem?_toList]
 ·rw [if_neg (by omega), Array.getElem?_eq_none (by omega), Array.getElem?_eq_none (by omega)]
def aggA (C : Array Value) : Value := .agg C
def oneA (C : Array Value) : Value := C.getD 0 undef
theorem readMsg (S q p top : Nat) (ht : top ≤ 1000) (f : Rs → List UInt8 × Rs) (z : Value) (hf : Gets msgV oneA 1 S q p f 181 z) (r : Rs) (w : World) (h : IsSR S w q p r) :
  Calls Tryz.prog 182 #[.pointer (some ⟨q, 0, none⟩), .int .i64 top, .func (.func 181) #[z] #[]] w fun e w' => ∃ v, e = .returned v ∧ OwnL (msgV (Exc w.heap.size v)) w.heap.size 29 1 w' v (Rs.rows top f r).1 ∧ IsSR S w' q p (Rs.rows top f r).2 ∧ Chg (T2 p q) w w' := by
 have HI := Lh (RCount_B S p top ht r.l r.er w h.rb)
 obtain ⟨k0, _, _⟩ := h.cells
 have hq := h.lt
 have hpS := h.pS
 have hSq := h.Sq
 have HS := Lh (fun w' l er => h.step (w' := w') (l := l) (er := er))
 obtain ⟨hc0, hc1⟩ := count_bd top r.l r.er
 obtain ⟨n, hn⟩ : ∃ n : Nat, (rdCount top r.l r.er).1 = n := ⟨_, (Int.toNat_of_nonneg hc0).symm⟩
 have HRw : Hid (Rs.rows top f r = Rs.many f n { r with l := (rdCount top r.l r.er).2.1, er := (rdCount top r.l r.er).2.2 }) := Lh (by
   unfold Rs.rows Rs.count
   rw [hn, Int.toNat_natCast])
 have HF := Lh hf
 have hn1000 : n ≤ 1000 := by omega
 obtain ⟨⟨x, l', er'⟩, hq2⟩ : ∃ y, rdCount top r.l r.er = y := ⟨_, rfl⟩
 rw [hq2] at HI HRw hn
 simp only at HI HRw hn
 subst hn
 clear h hq2 hc0 hc1 hf
 go_enter Tryz.func182, Tryz.ntmps182
 go_wp2_with fail
 refine HI.out.mono ?_
 rintro e w1 ⟨rfl, hb, hg⟩
 have HS1 := Lh (HS.out w1 l' er' hb hg)
 have HG1 := Lh hg
 clear hb hg HS HI k0
 obtain ⟨r1, hr1⟩ : ∃ r1 : Rs, { r with l := l', er := er' } = r1 := ⟨_, rfl⟩
 rw [hr1] at HS1 HRw
 clear hr1
 obtain ⟨B, hB⟩ : ∃ B, w.heap.size = B := ⟨_, rfl⟩
 have hqB : q < B := by omega
 have HBe := Lh (show B ≤ w1.heap.size by have := HG1.out.size; omega)
 have HB0 := Lh hB
 clear hB
 go_wp2_with fail
 go_loopw [14, 7] (fun iv lv wr => ∃ (k : Nat) (y : Value), k ≤ n ∧ iv = .int .i64 k ∧ y = lv ∧ Hid (OwnL (msgV (Exc B y)) B 29 1 wr y (Rs.many f k r1).1) ∧ Hid (IsSR S wr q p (Rs.many f k r1).2) ∧ Hid (Chg (T2 p q) w wr)) (fun iv _ _ => n - (intOf iv).toNat)
 case atStart => exact ⟨0, _, Nat.zero_le _, rfl, rfl, Lh (OwnL.nil _ _ _ _ _), HS1, Lh (T2.at_ HG1.out)⟩
 case round =>
  obtain ⟨k, lv, hk, rfl, rfl, HO, HX, HG⟩ := hrel
  by_cases hlt : k < n
  ·have hltd : decide ((k : Int) < (n : Int)) = true := by simpa using hlt
   have HK := Lh (HF.out wr _ HX.out)
   have hms := many_succ f k r1
   have HM := Lh hms
   have hml := many_len f k r1
   obtain ⟨a, ha⟩ : ∃ a, (f (Rs.many f k r1).2).1 = a := ⟨_, rfl⟩
   obtain ⟨r2, hr2⟩ : ∃ r2, (f (Rs.many f k r1).2).2 = r2 := ⟨_, rfl⟩
   rw [ha] at HK HM
   rw [hr2] at HK HM
   obtain ⟨L, hL⟩ : ∃ L, (Rs.many f k r1).1 = L := ⟨_, rfl⟩
   rw [hL] at HO HM hml
   clear hms ha hr2 hL
   have hBr : B ≤ wr.heap.size := by have := HG.out.size; have := HB0.out; omega
   go_wp2_with fail
   refine HK.out.mono ?_
   rintro e u ⟨C, rfl, hCs, hC1, hR, hx, hgu⟩
   have HO3 := Lh (HO.out.keep hgu (fun g e h => by have := (HO.out.ge e).1; rcases h with h | h <;> omega) (fun a vs h => relMsg.keep _ _ _ _ _ _ hgu (fun b hb h => by have := hb.1; rcases h with h | h <;> omega) h))
   have HX3 := Lh hx
   have HGu := Lh (HG.out.trans_same hgu)
   have HC := Lh (And.intro hCs hC1)
   have HRn := Lh (relMsg.bound _ _ _ _ hR)
   have hszu : wr.heap.size ≤ u.heap.size := hgu.size
   have HXo := Lh (fun g e => (HO.out.ge (g := g) e))
   clear hx hgu hCs hC1 hR HO HX HK
   obtain ⟨A0, c0, hv0, _, _, _⟩ := HO3.out.rd
   rw [hml] at hv0
   subst hv0
   have HML := Lh hml
   clear hml
   obtain ⟨A9, n9, c9, rfl⟩ : ∃ A n c, C = #[.slice A n c] := by
    obtain ⟨m, e, ⟨A, c, rfl, _⟩, _⟩ := HRn.out
    exact ⟨A, _, c, by rw [← Array.toArray_toList (xs := C), e]⟩
   have hone : oneA #[.slice A9 n9 c9] = .slice A9 n9 c9 := rfl
   rw [hone]
   obtain ⟨C, hC⟩ : ∃ C, C = #[Value.slice A9 n9 c9] := ⟨_, rfl⟩
   rw [← hC] at HC HRn
   go_wp2_with (refine sel (some 20) (.call _) ?_; refine Vm_stop ?_)
   refine HoleV.mk ?_
   rw [← hC]
   have hal : Chg Non u (u.alloc (.cells C 29)) := (Chg.refl Non u).alloc _
   refine wpList_snocL (msgV (fun b => Exc B (.slice A0 k c0) b ∧ b < u.heap.size)) rfl (.tmp 16) (.tmp 19) 108 rfl B 29 _ 1 24 Tryz.underlying108 info_clBy rfl (by omega) (.slice A0 k c0) L rfl ((HO3.out.mono (fun _ _ h => relMsg.bound _ _ _ _ h)).non hal (fun _ _ h => relMsg.keep _ _ _ _ _ _ hal (fun _ _ e => e) h)) u.heap.size a C 29 rfl (blk_new _ _) HC.out.1 HC.out.2 (by have := HML.out; omega) (by omega) (by simp; omega)
    (fun w' a vs hg h => relMsg.keep _ _ _ _ _ _ hg (fun b hb e => hb.1.2 e) h) ?_ ?_
   ·refine relMsg.keep _ _ _ _ _ _ hal (fun _ _ e => e) (relMsg.mono _ _ _ _ _ (fun b hb => ⟨⟨?_, fun e => ?_⟩, hb.2⟩) HRn.out)
    ·have : wr.heap.size ≤ b := hb.1
     omega
    ·have h1 := (HXo.out b e).2
     have : wr.heap.size ≤ b := hb.1
     omega
   intro v2 w2 ho hg hv
   have HO2 : Hid (OwnL (msgV (Exc B v2)) B 29 1 w2 v2 (Rs.many f (k + 1) r1).1) := Lh (by
     rw [HM.out.1]
     refine ho.mono (fun a vs h => relMsg.mono _ _ _ _ _ (fun b e => ⟨e.1.1, fun e2 => ?_⟩) h)
     rcases hv b e2 with e3 | e3
     · exact e.1.2 e3
     · have := e.2; simp at e3; omega)
   have HG2 := Lh ((HGu.out.alloc (.cells C 29)).then_new hg (fun x e => by have := (HXo.out x e).1; have := HB0.out; omega))
   have HX2 : Hid (IsSR S w2 q p (Rs.many f (k + 1) r1).2) := Lh (by
     rw [HM.out.2]
     exact (HX3.out.non hal).keep hg (fun b hb e => by have := (HXo.out b e).1; omega) (fun e => by have := (HXo.out q e).1; omega))
   clear ho hg hv hal
   go_wp2_with fail
   exact ⟨⟨k + 1, v2, by omega, by simp, rfl, HO2, HX2, HG2⟩, by simp [intOf]; omega⟩
  ·obtain rfl : k = n := by omega
   have hltd : decide ((k : Int) < (k : Int)) = false := by simp
   go_wp2_with fail
   go_ret
   refine ⟨lv, rfl, ?_, ?_, HG.out⟩
   ·rw [HB0.out, HRw.out]; exact HO.out
   ·rw [HRw.out]; exact HX.out
theorem readPart {α : Type} (RI : (Nat → Prop) → World → α → List Value → Prop) (hRI : Rel RI) (S q p top : Nat) (ht : top ≤ 1000) (f : Rs → α × Rs) (z : Value) (hf : Gets RI aggA 14 S q p f 146 z) (r : Rs) (w : World) (h : IsSR S w q p r) :
  Calls Tryz.prog 145 #[.pointer (some ⟨q, 0, none⟩), .int .i64 top, .func (.func 146) #[z] #[]] w fun e w' => ∃ v, e = .returned v ∧ OwnL (RI (Exc w.heap.size v)) w.heap.size 104 14 w' v (Rs.rows top f r).1 ∧ IsSR S w' q p (Rs.rows top f r).2 ∧ Chg (T2 p q) w w' := by
 have HI := Lh (RCount_B S p top ht r.l r.er w h.rb)
 obtain ⟨k0, _, _⟩ := h.cells
 have hq := h.lt
 have hpS := h.pS
 have hSq := h.Sq
 have HS := Lh (fun w' l er => h.step (w' := w') (l := l) (er := er))
 obtain ⟨hc0, hc1⟩ := count_bd top r.l r.er
 obtain ⟨n, hn⟩ : ∃ n : Nat, (rdCount top r.l r.er).1 = n := ⟨_, (Int.toNat_of_nonneg hc0).symm⟩
 have HRw : Hid (Rs.rows top f r = Rs.many f n { r with l := (rdCount top r.l r.er).2.1, er := (rdCount top r.l r.er).2.2 }) := Lh (by
   unfold Rs.rows Rs.count
   rw [hn, Int.toNat_natCast])
 have HF := Lh hf
 have hn1000 : n ≤ 1000 := by omega
 obtain ⟨⟨x, l', er'⟩, hq2⟩ : ∃ y, rdCount top r.l r.er = y := ⟨_, rfl⟩
 rw [hq2] at HI HRw hn
 simp only at HI HRw hn
 subst hn
 clear h hq2 hc0 hc1 hf
 go_enter Tryz.func145, Tryz.ntmps145
 go_wp2_with fail
 refine HI.out.mono ?_
 rintro e w1 ⟨rfl, hb, hg⟩
 have HS1 := Lh (HS.out w1 l' er' hb hg)
 have HG1 := Lh hg
 clear hb hg HS HI k0
 obtain ⟨r1, hr1⟩ : ∃ r1 : Rs, { r with l := l', er := er' } = r1 := ⟨_, rfl⟩
 rw [hr1] at HS1 HRw
 clear hr1
 obtain ⟨B, hB⟩ : ∃ B, w.heap.size = B := ⟨_, rfl⟩
 have hqB : q < B := by omega
 have HBe := Lh (show B ≤ w1.heap.size by have := HG1.out.size; omega)
 have HB0 := Lh hB
 clear hB
 go_wp2_with fail
 go_loopw [14, 7] (fun iv lv wr => ∃ (k : Nat) (y : Value), k ≤ n ∧ iv = .int .i64 k ∧ y = lv ∧ Hid (OwnL (RI (Exc B y)) B 104 14 wr y (Rs.many f k r1).1) ∧ Hid (IsSR S wr q p (Rs.many f k r1).2) ∧ Hid (Chg (T2 p q) w wr)) (fun iv _ _ => n - (intOf iv).toNat)
 case atStart => exact ⟨0, _, Nat.zero_le _, rfl, rfl, Lh (OwnL.nil _ _ _ _ _), HS1, Lh (T2.at_ HG1.out)⟩
 case round =>
  obtain ⟨k, lv, hk, rfl, rfl, HO, HX, HG⟩ := hrel
  by_cases hlt : k < n
  ·have hltd : decide ((k : Int) < (n : Int)) = true := by simpa using hlt
   have HK := Lh (HF.out wr _ HX.out)
   have hms := many_succ f k r1
   have HM := Lh hms
   have hml := many_len f k r1
   obtain ⟨a, ha⟩ : ∃ a, (f (Rs.many f k r1).2).1 = a := ⟨_, rfl⟩
   obtain ⟨r2, hr2⟩ : ∃ r2, (f (Rs.many f k r1).2).2 = r2 := ⟨_, rfl⟩
   rw [ha] at HK HM
   rw [hr2] at HK HM
   obtain ⟨L, hL⟩ : ∃ L, (Rs.many f k r1).1 = L := ⟨_, rfl⟩
   rw [hL] at HO HM hml
   clear hms ha hr2 hL
   have hBr : B ≤ wr.heap.size := by have := HG.out.size; have := HB0.out; omega
   go_wp2_with fail
   refine HK.out.mono ?_
   rintro e u ⟨C, rfl, hCs, hC1, hR, hx, hgu⟩
   have HO3 := Lh (HO.out.keep hgu (fun g e h => by have := (HO.out.ge e).1; rcases h with h | h <;> omega) (fun a vs h => hRI.keep _ _ _ _ _ _ hgu (fun b hb h => by have := hb.1; rcases h with h | h <;> omega) h))
   have HX3 := Lh hx
   have HGu := Lh (HG.out.trans_same hgu)
   have HC := Lh (And.intro hCs hC1)
   have HRn := Lh (hRI.bound _ _ _ _ hR)
   have hszu : wr.heap.size ≤ u.heap.size := hgu.size
   have HXo := Lh (fun g e => (HO.out.ge (g := g) e))
   clear hx hgu hCs hC1 hR HO HX HK
   obtain ⟨A0, c0, hv0, _, _, _⟩ := HO3.out.rd
   rw [hml] at hv0
   subst hv0
   have HML := Lh hml
   clear hml
   have hCs := HC.out.1
   unfold aggA
   go_wp2_with (refine sel (some 20) (.call _) ?_; refine Vm_stop ?_)
   refine HoleV.mk ?_
   rw [fold_all _ C 14 rfl hCs]
   have hal : Chg Non u (u.alloc (.cells C 104)) := (Chg.refl Non u).alloc _
   refine wpList_snocL (RI (fun b => Exc B (.slice A0 k c0) b ∧ b < u.heap.size)) rfl (.tmp 16) (.tmp 19) 22 rfl B 104 _ 14 88 Tryz.underlying22 info_clPt rfl (by omega) (.slice A0 k c0) L rfl ((HO3.out.mono (fun _ _ h => hRI.bound _ _ _ _ h)).non hal (fun _ _ h => hRI.keep _ _ _ _ _ _ hal (fun _ _ e => e) h)) u.heap.size a C 104 rfl (blk_new _ _) HC.out.1 HC.out.2 (by have := HML.out; omega) (by omega) (by simp; omega)
    (fun w' a vs hg h => hRI.keep _ _ _ _ _ _ hg (fun b hb e => hb.1.2 e) h) ?_ ?_
   ·refine hRI.keep _ _ _ _ _ _ hal (fun _ _ e => e) (hRI.mono _ _ _ _ _ (fun b hb => ⟨⟨?_, fun e => ?_⟩, hb.2⟩) HRn.out)
    ·have : wr.heap.size ≤ b := hb.1
     omega
    ·have h1 := (HXo.out b e).2
     have : wr.heap.size ≤ b := hb.1
     omega
   intro v2 w2 ho hg hv
   have HO2 : Hid (OwnL (RI (Exc B v2)) B 104 14 w2 v2 (Rs.many f (k + 1) r1).1) := Lh (by
     rw [HM.out.1]
     refine ho.mono (fun a vs h => hRI.mono _ _ _ _ _ (fun b e => ⟨e.1.1, fun e2 => ?_⟩) h)
     rcases hv b e2 with e3 | e3
     · exact e.1.2 e3
     · have := e.2; simp at e3; omega)
   have HG2 := Lh ((HGu.out.alloc (.cells C 104)).then_new hg (fun x e => by have := (HXo.out x e).1; have := HB0.out; omega))
   have HX2 : Hid (IsSR S w2 q p (Rs.many f (k + 1) r1).2) := Lh (by
     rw [HM.out.2]
     exact (HX3.out.non hal).keep hg (fun b hb e => by have := (HXo.out b e).1; omega) (fun e => by have := (HXo.out q e).1; omega))
   clear ho hg hv hal
   go_wp2_with fail
   exact ⟨⟨k + 1, v2, by omega, by simp, rfl, HO2, HX2, HG2⟩, by simp [intOf]; omega⟩
  ·obtain rfl : k = n := by omega
   have hltd : decide ((k : Int) < (k : Int)) = false := by simp
   go_wp2_with fail
   go_ret
   refine ⟨lv, rfl, ?_, ?_, HG.out⟩
   ·rw [HB0.out, HRw.out]; exact HO.out
   ·rw [HRw.out]; exact HX.out
theorem readQueue {α : Type} (RI : (Nat → Prop) → World → α → List Value → Prop) (hRI : Rel RI) (S q p top : Nat) (ht : top ≤ 1000) (f : Rs → α × Rs) (z : Value) (hf : Gets RI aggA 6 S q p f 148 z) (r : Rs) (w : World) (h : IsSR S w q p r) :
  Calls Tryz.prog 147 #[.pointer (some ⟨q, 0, none⟩), .int .i64 top, .func (.func 148) #[z] #[]] w fun e w' => ∃ v, e = .returned v ∧ OwnL (RI (Exc w.heap.size v)) w.heap.size 110 6 w' v (Rs.rows top f r).1 ∧ IsSR S w' q p (Rs.rows top f r).2 ∧ Chg (T2 p q) w w' := by
 have HI := Lh (RCount_B S p top ht r.l r.er w h.rb)
 obtain ⟨k0, _, _⟩ := h.cells
 have hq := h.lt
 have hpS := h.pS
 have hSq := h.Sq
 have HS := Lh (fun w' l er => h.step (w' := w') (l := l) (er := er))
 obtain ⟨hc0, hc1⟩ := count_bd top r.l r.er
 obtain ⟨n, hn⟩ : ∃ n : Nat, (rdCount top r.l r.er).1 = n := ⟨_, (Int.toNat_of_nonneg hc0).symm⟩
 have HRw : Hid (Rs.rows top f r = Rs.many f n { r with l := (rdCount top r.l r.er).2.1, er := (rdCount top r.l r.er).2.2 }) := Lh (by
   unfold Rs.rows Rs.count
   rw [hn, Int.toNat_natCast])
 have HF := Lh hf
 have hn1000 : n ≤ 1000 := by omega
 obtain ⟨⟨x, l', er'⟩, hq2⟩ : ∃ y, rdCount top r.l r.er = y := ⟨_, rfl⟩
 rw [hq2] at HI HRw hn
 simp only at HI HRw hn
 subst hn
 clear h hq2 hc0 hc1 hf
 go_enter Tryz.func147, Tryz.ntmps147
 go_wp2_with fail
 refine HI.out.mono ?_
 rintro e w1 ⟨rfl, hb, hg⟩
 have HS1 := Lh (HS.out w1 l' er' hb hg)
 have HG1 := Lh hg
 clear hb hg HS HI k0
 obtain ⟨r1, hr1⟩ : ∃ r1 : Rs, { r with l := l', er := er' } = r1 := ⟨_, rfl⟩
 rw [hr1] at HS1 HRw
 clear hr1
 obtain ⟨B, hB⟩ : ∃ B, w.heap.size = B := ⟨_, rfl⟩
 have hqB : q < B := by omega
 have HBe := Lh (show B ≤ w1.heap.size by have := HG1.out.size; omega)
 have HB0 := Lh hB
 clear hB
 go_wp2_with fail
 go_loopw [14, 7] (fun iv lv wr => ∃ (k : Nat) (y : Value), k ≤ n ∧ iv = .int .i64 k ∧ y = lv ∧ Hid (OwnL (RI (Exc B y)) B 110 6 wr y (Rs.many f k r1).1) ∧ Hid (IsSR S wr q p (Rs.many f k r1).2) ∧ Hid (Chg (T2 p q) w wr)) (fun iv _ _ => n - (intOf iv).toNat)
 case atStart => exact ⟨0, _, Nat.zero_le _, rfl, rfl, Lh (OwnL.nil _ _ _ _ _), HS1, Lh (T2.at_ HG1.out)⟩
 case round =>
  obtain ⟨k, lv, hk, rfl, rfl, HO, HX, HG⟩ := hrel
  by_cases hlt : k < n
  ·have hltd : decide ((k : Int) < (n : Int)) = true := by simpa using hlt
   have HK := Lh (HF.out wr _ HX.out)
   have hms := many_succ f k r1
   have HM := Lh hms
   have hml := many_len f k r1
   obtain ⟨a, ha⟩ : ∃ a, (f (Rs.many f k r1).2).1 = a := ⟨_, rfl⟩
   obtain ⟨r2, hr2⟩ : ∃ r2, (f (Rs.many f k r1).2).2 = r2 := ⟨_, rfl⟩
   rw [ha] at HK HM
   rw [hr2] at HK HM
   obtain ⟨L, hL⟩ : ∃ L, (Rs.many f k r1).1 = L := ⟨_, rfl⟩
   rw [hL] at HO HM hml
   clear hms ha hr2 hL
   have hBr : B ≤ wr.heap.size := by have := HG.out.size; have := HB0.out; omega
   go_wp2_with fail
   refine HK.out.mono ?_
   rintro e u ⟨C, rfl, hCs, hC1, hR, hx, hgu⟩
   have HO3 := Lh (HO.out.keep hgu (fun g e h => by have := (HO.out.ge e).1; rcases h with h | h <;> omega) (fun a vs h => hRI.keep _ _ _ _ _ _ hgu (fun b hb h => by have := hb.1; rcases h with h | h <;> omega) h))
   have HX3 := Lh hx
   have HGu := Lh (HG.out.trans_same hgu)
   have HC := Lh (And.intro hCs hC1)
   have HRn := Lh (hRI.bound _ _ _ _ hR)
   have hszu : wr.heap.size ≤ u.heap.size := hgu.size
   have HXo := Lh (fun g e => (HO.out.ge (g := g) e))
   clear hx hgu hCs hC1 hR HO HX HK
   obtain ⟨A0, c0, hv0, _, _, _⟩ := HO3.out.rd
   rw [hml] at hv0
   subst hv0
   have HML := Lh hml
   clear hml
   have hCs := HC.out.1
   unfold aggA
   go_wp2_with (refine sel (some 20) (.call _) ?_; refine Vm_stop ?_)
   refine HoleV.mk ?_
   rw [fold_all _ C 6 rfl hCs]
   have hal : Chg Non u (u.alloc (.cells C 110)) := (Chg.refl Non u).alloc _
   refine wpList_snocL (RI (fun b => Exc B (.slice A0 k c0) b ∧ b < u.heap.size)) rfl (.tmp 16) (.tmp 19) 23 rfl B 110 _ 6 64 Tryz.underlying23 info_clQu rfl (by omega) (.slice A0 k c0) L rfl ((HO3.out.mono (fun _ _ h => hRI.bound _ _ _ _ h)).non hal (fun _ _ h => hRI.keep _ _ _ _ _ _ hal (fun _ _ e => e) h)) u.heap.size a C 110 rfl (blk_new _ _) HC.out.1 HC.out.2 (by have := HML.out; omega) (by omega) (by simp; omega)
    (fun w' a vs hg h => hRI.keep _ _ _ _ _ _ hg (fun b hb e => hb.1.2 e) h) ?_ ?_
   ·refine hRI.keep _ _ _ _ _ _ hal (fun _ _ e => e) (hRI.mono _ _ _ _ _ (fun b hb => ⟨⟨?_, fun e => ?_⟩, hb.2⟩) HRn.out)
    ·have : wr.heap.size ≤ b := hb.1
     omega
    ·have h1 := (HXo.out b e).2
     have : wr.heap.size ≤ b := hb.1
     omega
   intro v2 w2 ho hg hv
   have HO2 : Hid (OwnL (RI (Exc B v2)) B 110 6 w2 v2 (Rs.many f (k + 1) r1).1) := Lh (by
     rw [HM.out.1]
     refine ho.mono (fun a vs h => hRI.mono _ _ _ _ _ (fun b e => ⟨e.1.1, fun e2 => ?_⟩) h)
     rcases hv b e2 with e3 | e3
     · exact e.1.2 e3
     · have := e.2; simp at e3; omega)
   have HG2 := Lh ((HGu.out.alloc (.cells C 110)).then_new hg (fun x e => by have := (HXo.out x e).1; have := HB0.out; omega))
   have HX2 : Hid (IsSR S w2 q p (Rs.many f (k + 1) r1).2) := Lh (by
     rw [HM.out.2]
     exact (HX3.out.non hal).keep hg (fun b hb e => by have := (HXo.out b e).1; omega) (fun e => by have := (HXo.out q e).1; omega))
   clear ho hg hv hal
   go_wp2_with fail
   exact ⟨⟨k + 1, v2, by omega, by simp, rfl, HO2, HX2, HG2⟩, by simp [intOf]; omega⟩
  ·obtain rfl : k = n := by omega
   have hltd : decide ((k : Int) < (k : Int)) = false := by simp
   go_wp2_with fail
   go_ret
   refine ⟨lv, rfl, ?_, ?_, HG.out⟩
   ·rw [HB0.out, HRw.out]; exact HO.out
   ·rw [HRw.out]; exact HX.out
end
section
open Go.RowKit
theorem i64_bd (n : Nat) : I64 (i64 n) := by unfold i64 wrap64 I64; omega
theorem rdInt_bd (l : List UInt8) (er : Int) : I64 (rdInt l er).1 := by
 unfold rdInt
 split
 ·split
  ·exact i64_bd _
  ·exact ⟨by simp, by simp⟩
 ·exact ⟨by simp, by simp⟩
theorem rdBytes_bd (l : List UInt8) (er : Int) : (rdBytes l er).1.length ≤ 65536 := by
 unfold rdBytes
 split
 ·split
  ·split
   ·split
    ·simp only [List.length_take]; omega
    ·simp
   ·simp
  ·simp
 ·simp
theorem word_bd (r : Rs) : r.word.1 < 4294967296 := by unfold Rs.word; simp only; omega
theorem words_bd : ∀ (k : Nat) (r : Rs), ∀ x ∈ (Rs.many Rs.word k r).1, x < 4294967296
 | 0, _, x, h => by simp [Rs.many] at h
 | k + 1, r, x, h => by
  rcases List.mem_cons.1 h with rfl | h
  ·exact word_bd r
  ·exact words_bd k _ x h
structure PtSt (S q p b2 b3 : Nat) (W0 W : World) (r : Rs) (pt : Pt) (m : Value) : Prop where
 sr : IsSR S W q p r
 pb : PartB W b3 pt m
 zb : W.heap[b2]? = some (.cells zeroPart 104 (0, 0))
 chg : Chg (T2 p q) W0 W
 q0 : q < W0.heap.size
 b0 : W0.heap.size ≤ b2
 b1 : b2 < b3
namespace PtSt
variable {S q p b2 b3 : Nat} {W0 W W' : World} {r r' : Rs} {pt pt' : Pt} {m m' : Value}
theorem call (h : PtSt S q p b2 b3 W0 W r pt m) (hs : IsSR S W' q p r') (hg : Chg (T2 p q) W W') : PtSt S q p b2 b3 W0 W' r' pt m := by
 have h1 := h.sr.pS; have h2 := h.sr.Sq; have h3 := h.q0; have h4 := h.b0; have h5 := h.b1
 exact ⟨hs, h.pb.keep hg (fun e => by rcases e with e | e <;> omega), blk_keep h.zb hg (fun e => by rcases e with e | e <;> omega), h.chg.trans_same hg, h3, h4, h5⟩
theorem int (h : PtSt S q p b2 b3 W0 W r pt m) {l : List UInt8} {er : Int} (hb : IsRB S W' p l er) (hg : Chg (At p) W W') : PtSt S q p b2 b3 W0 W' { r with l := l, er := er } pt m := h.call (h.sr.step hb hg) (T2.at_ hg)
theorem set (h : PtSt S q p b2 b3 W0 W r pt m) (i : Nat) (v : Value) (hpb : PartB (W.setCell ⟨b3, i, none⟩ v) b3 pt' m') : PtSt S q p b2 b3 W0 (W.setCell ⟨b3, i, none⟩ v) r pt' m' := by
 have h1 := h.sr.pS; have h2 := h.sr.Sq; have h3 := h.q0; have h4 := h.b0; have h5 := h.b1
 have hst := setAt W b3 i v
 exact ⟨h.sr.keep hst (fun b hb e => by have e : b = b3 := e; omega) (fun e => by have e : q = b3 := e; omega), hpb, blk_keep h.zb hst (fun e => by have e : b2 = b3 := e; omega), h.chg.then_new hst (fun x e => by have e : x = b3 := e; omega), h3, h4, h5⟩
theorem cells (h : PtSt S q p b2 b3 W0 W r pt m) : W.cell? ⟨q, 0, none⟩ = some (.pointer (some ⟨p, 0, none⟩)) ∧ b3 < W.heap.size ∧ q < W.heap.size := ⟨h.sr.cells.1, h.pb.lt, h.sr.lt⟩
end PtSt
theorem PartB.setSize {W : World} {b : Nat} {p : Pt} {m : Value} (h : PartB W b p m) (v : Int) : PartB (W.setCell ⟨b, 1, none⟩ (.int .i64 v)) b { p with size := v } m := ⟨blk_set 1 (.int .i64 v) h.out, h.len⟩
theorem PartB.setKeep {W : World} {b : Nat} {p : Pt} {m : Value} (h : PartB W b p m) (v : Bool) : PartB (W.setCell ⟨b, 2, none⟩ (.bool v)) b { p with keep := v } m := ⟨blk_set 2 (.bool v) h.out, h.len⟩
theorem pad_set {L : List Nat} {k v : Nat} (h : L.length = k) (hk : k < 8) : (L ++ List.replicate (8 - k) 0).set k v = (L ++ [v]) ++ List.replicate (8 - (k + 1)) 0 := by
 rw [List.set_append_right _ _ (by omega), h, Nat.sub_self, show 8 - k = (8 - (k + 1)) + 1 by omega, List.replicate_succ, List.set_cons_zero, List.append_assoc]
 rfl
namespace PtSt
variable {S q p b2 b3 : Nat} {W0 W W' : World} {r r' : Rs} {pt pt' : Pt} {m m' : Value}
theorem cInt (h : PtSt S q p b2 b3 W0 W r pt m) : Calls Tryz.prog 142 #[.pointer (some ⟨p, 0, none⟩)] W fun e w' => e = .returned (.int .i64 r.int.1) ∧ PtSt S q p b2 b3 W0 w' r.int.2 pt m := by
 refine (RInt_B S p r.l r.er W h.sr.rb).mono ?_
 rintro e w' ⟨rfl, hb, hg⟩
 exact ⟨rfl, h.int hb hg⟩
theorem cFlag (h : PtSt S q p b2 b3 W0 W r pt m) : Calls Tryz.prog 178 #[.pointer (some ⟨p, 0, none⟩)] W fun e w' => e = .returned (.bool r.flag.1) ∧ PtSt S q p b2 b3 W0 w' r.flag.2 pt m := by
 refine (RFlag_B S p r.l r.er W h.sr.rb).mono ?_
 rintro e w' ⟨rfl, hb, hg⟩
 exact ⟨rfl, h.int hb hg⟩
theorem cByte (h : PtSt S q p b2 b3 W0 W r pt m) : Calls Tryz.prog 180 #[.pointer (some ⟨p, 0, none⟩)] W fun e w' => e = .returned (.int .u8 (r.byte.1.toNat : Nat)) ∧ PtSt S q p b2 b3 W0 w' r.byte.2 pt m := by
 refine (RByte_B S p r.l r.er W h.sr.rb).mono ?_
 rintro e w' ⟨rfl, hb, hg⟩
 exact ⟨rfl, h.int hb hg⟩
theorem cBytes (h : PtSt S q p b2 b3 W0 W r pt m) : Calls Tryz.prog 181 #[.pointer (some ⟨p, 0, none⟩)] W fun e w' => ∃ A c, e = .returned (.slice A r.bytes.1.length c) ∧ r.bytes.1.length ≤ c ∧ c ≤ maxLen ∧ Own W.heap.size w' A r.bytes.1 ∧ PtSt S q p b2 b3 W0 w' r.bytes.2 pt m := by
 refine (RBytes_B S p r.l r.er W h.sr.rb).mono ?_
 rintro e w' ⟨A, c, rfl, h1, h2, h3, hb, hg⟩
 exact ⟨A, c, rfl, h1, h2, h3, h.int hb hg⟩
theorem cWord (h : PtSt S q p b2 b3 W0 W r pt m) : Calls Tryz.prog 179 #[.pointer (some ⟨q, 0, none⟩)] W fun e w' => e = .returned (.int .u32 (r.word.1 : Nat)) ∧ PtSt S q p b2 b3 W0 w' r.word.2 pt m := by
 refine (word_ok S q p r W h.sr).mono ?_
 rintro e w' ⟨rfl, hb, hg⟩
 exact ⟨rfl, h.call hb hg⟩
end PtSt
theorem part_gets (S q p : Nat) : Gets ptV aggA 14 S q p Rs.pt 146 (.pointer (some ⟨q, 0, none⟩)) := by
 intro W r h
 have HI := Lh (show Calls Tryz.prog 142 #[.pointer (some ⟨p, 0, none⟩)] (W.alloc (.cells zeroPart 104)) fun e w' => e = .returned (.int .i64 r.int.1) ∧ IsRB S w' p r.int.2.l r.int.2.er ∧ Chg (At p) (W.alloc (.cells zeroPart 104)) w' from RInt_B S p r.l r.er _ (h.non ((Chg.refl Non W).alloc _)).rb)
 have HS0 := Lh (h.non ((Chg.refl Non W).alloc (.cells zeroPart 104)))
 obtain ⟨k0, _, _⟩ := h.cells
 have hq := h.lt
 have hx1 := rdInt_bd r.l r.er
 have hx2 := rdInt_bd r.int.2.l r.int.2.er
 have HPt : Hid (∀ r1 r2 r3 r4 r5 r6 r7 x1 x2 x3 x4 x5 x6 x7, r.int = (x1, r1) → r1.int = (x2, r2) → r2.flag = (x3, r3) → Rs.many Rs.word 8 r3 = (x4, r4) → r4.word = (x5, r5) → r5.byte = (x6, r6) → r6.bytes = (x7, r7) →
     Rs.pt r = ({ id := x1, size := x2, keep := x3, r := x4, pc := x5, st := x6.toNat, mem := x7 }, r7)) := Lh (by
   intro r1 r2 r3 r4 r5 r6 r7 x1 x2 x3 x4 x5 x6 x7 e1 e2 e3 e4 e5 e6 e7
   unfold Rs.pt Rs.words
   simp only [e1, e2, e3, e4, e5, e6, e7])
 have HX := Lh (And.intro (show I64 r.int.1 from hx1) (show I64 r.int.2.int.1 from hx2))
 have HSr := Lh (fun w' hb hg => HS0.out.step (w' := w') (l := r.int.2.l) (er := r.int.2.er) hb hg)
 have hst : ({ r with l := r.int.2.l, er := r.int.2.er } : Rs) = r.int.2 := rfl
 rw [hst] at HSr
 obtain ⟨⟨x1, r1⟩, hr1⟩ : ∃ y, r.int = y := ⟨_, rfl⟩
 rw [hr1] at HI HX HSr
 have HR1 := Lh hr1
 simp only at HI HX HSr
 clear h hx1 hx2 hst hr1
 unfold aggA
 go_enter Tryz.func146, Tryz.ntmps146
 go_wp2_with fail
 refine HI.out.mono ?_
 rintro e w1 ⟨rfl, hb, hg⟩
 have HS1 := Lh (HSr.out w1 hb hg)
 have HG1 := Lh ((Chg.refl (T2 p q) W).alloc (.cells zeroPart 104) |>.trans_same (T2.at_ hg))
 have HZ1 := Lh (blk_keep (blk_new W (.cells zeroPart 104)) hg (fun e => by have e : W.heap.size = p := e; have := HS0.out.pS; have := HS0.out.Sq; omega))
 have hlz := blk_lt HZ1.out
 clear hb hg HSr HI HS0 k0
 obtain ⟨C0, hC0⟩ : ∃ C, partC { id := x1, size := 0, keep := false, r := [0, 0, 0, 0, 0, 0, 0, 0], pc := 0, st := 0, mem := [] } (.slice none 0 0) = C := ⟨_, rfl⟩
 have hC0s : C0.size = 14 := by rw [← hC0]; rfl
 have hC01 : C0.all (·.oneCell') = true := by rw [← hC0]; exact partC_one _ _ rfl
 have HC0 := Lh hC0
 go_wp2_with (first
   | (refine sel (some 10) (.build 104 _) ?_; refine wpList_valA rfl (some 10) (.agg (partC { id := x1, size := 0, keep := false, r := [0, 0, 0, 0, 0, 0, 0, 0], pc := 0, st := 0, mem := [] } (.slice none 0 0))) rfl (by kernel_rfl) ?_; rw [HC0.out])
   | (refine sel none (.store 104 (.tmp 3) (.tmp 10)) ?_
      refine wpList_store_rowA rfl 104 (.tmp 3) (.tmp 10) rfl w1.heap.size C0 rfl rfl 104 _ (blk_new _ _) (by rw [hC0s]; exact info_part) (by rw [hC0s]; rfl) hC01 ?_
      intro w2 hgW hbW
      have hgn : Chg Non w1 w2 := ((Chg.refl Non w1).alloc _).then_new hgW (fun x e => by omega)
      have k0 := (HS1.out.non hgn).cells.1
      have hlq := (HS1.out.non hgn).lt))
 clear k0 hlq
 have hq1 := HS1.out.lt
 have hP2 : PtSt S q p W.heap.size w1.heap.size W w2 r1 { id := x1, size := 0, keep := false, r := [0, 0, 0, 0, 0, 0, 0, 0], pc := 0, st := 0, mem := [] } (.slice none 0 0) :=
  ⟨HS1.out.non hgn, ⟨by unfold PartAt; rw [HC0.out]; exact hbW, rfl⟩, blk_keep HZ1.out hgn (fun e => e), HG1.out.then_non hgn, hq, Nat.le_refl _, hlz⟩
 obtain ⟨b2, hb2⟩ : ∃ b, W.heap.size = b := ⟨_, rfl⟩
 obtain ⟨b3, hb3⟩ : ∃ b, w1.heap.size = b := ⟨_, rfl⟩
 rw [hb2, hb3] at hP2
 rw [hb2, hb3]
 have HB2 := Lh hb2
 clear hgn hgW hbW hb2 hb3 HZ1 hlz HG1 HS1 hC0 hC0s hC01 HC0 hq1 hq
 -- size
 have H2 := Lh hP2.cInt
 obtain ⟨⟨x2, r2⟩, hr2⟩ : ∃ y, r1.int = y := ⟨_, rfl⟩
 rw [hr2] at H2 HX
 simp only at H2 HX
 have HR2 := Lh hr2
 clear hr2 hP2
 refine H2.out.mono ?_
 rintro e w3 ⟨rfl, hP⟩
 obtain ⟨m0, hl3, hlq⟩ := hP.cells
 have f1 := hP.pb.frozen 1
 have c1 := hP.pb.cells.2.1
 have hP3 := hP.set 1 (.int .i64 x2) (hP.pb.setSize x2)
 have HP3 := Lh hP3
 clear hP H2
 -- keep
 have H3 := Lh hP3.cFlag
 obtain ⟨⟨x3, r3⟩, hr3⟩ : ∃ y, r2.flag = y := ⟨_, rfl⟩
 rw [hr3] at H3
 simp only at H3
 have HR3 := Lh hr3
 clear hr3
 obtain ⟨k0, hl4, hlq4⟩ := hP3.cells
 clear hP3
 go_wp2_with fail
 refine H3.out.mono ?_
 rintro e w4 ⟨rfl, hP⟩
 obtain ⟨m0, hl5, hlq5⟩ := hP.cells
 have f2 := hP.pb.frozen 2
 have c2 := hP.pb.cells.2.2.1
 have HP4 : Hid (PtSt S q p b2 b3 W (w4.setCell ⟨b3, 2, none⟩ (.bool x3)) r3 { id := x1, size := x2, keep := x3, r := [0, 0, 0, 0, 0, 0, 0, 0], pc := 0, st := 0, mem := [] } (.slice none 0 0)) := Lh (hP.set 2 (.bool x3) (hP.pb.setKeep x3))
 clear hP H3 k0 HP3 c1 f1
 go_wp2_with fail
 clear f2 c2 m0
 go_loopw [23] (fun iv wr => ∃ k : Nat, k ≤ 8 ∧ iv = .int .i64 k ∧ Hid (PtSt S q p b2 b3 W wr (Rs.many Rs.word k r3).2 { id := x1, size := x2, keep := x3, r := (Rs.many Rs.word k r3).1 ++ List.replicate (8 - k) 0, pc := 0, st := 0, mem := [] } (.slice none 0 0))) (fun iv _ => 8 - (intOf iv).toNat)
 case atStart => exact ⟨0, Nat.zero_le _, rfl, HP4⟩
 case round =>
  obtain ⟨k, hk, rfl, HX4⟩ := hrel
  by_cases hlt : k < 8
  ·have hltd : decide ((k : Int) < 8) = true := by rw [decide_eq_true_eq]; omega
   have HC := Lh HX4.out.cWord
   have hms := many_succ Rs.word k r3
   have HM := Lh hms
   have HL := Lh (many_len Rs.word k r3)
   obtain ⟨⟨v, rn⟩, hrn⟩ : ∃ y, (Rs.many Rs.word k r3).2.word = y := ⟨_, rfl⟩
   rw [hrn] at HC HM
   simp only at HC HM
   obtain ⟨L, hL⟩ : ∃ L, (Rs.many Rs.word k r3).1 = L := ⟨_, rfl⟩
   rw [hL] at HC HM HL
   have hvb : (v : Int) < 4294967296 := by have := word_bd (Rs.many Rs.word k r3).2; rw [hrn] at this; simp only at this; omega
   clear hms hrn hL
   go_wp2_with fail
   refine HC.out.mono ?_
   rintro e u ⟨rfl, hP⟩
   obtain ⟨m0, hl6, hlq6⟩ := hP.cells
   have fr := hP.pb.frozen (3 + k)
   have cr := hP.pb.reg k hlt
   have HP5 : Hid (PtSt S q p b2 b3 W (u.setCell ⟨b3, 3 + k, none⟩ (.int .u32 (v : Nat))) (Rs.many Rs.word (k + 1) r3).2 { id := x1, size := x2, keep := x3, r := (Rs.many Rs.word (k + 1) r3).1 ++ List.replicate (8 - (k + 1)) 0, pc := 0, st := 0, mem := [] } (.slice none 0 0)) := Lh (by
     have h := hP.set (3 + k) (.int .u32 (v : Nat)) (hP.pb.setReg k v hlt)
     rw [HM.out.1, HM.out.2]
     unfold Pt.set at h
     simp only at h
     rwa [pad_set HL.out hlt] at h)
   clear hP HC
   go_wp2_with fail
   exact ⟨⟨k + 1, by omega, by simp, HP5⟩, by simp [intOf]; omega⟩
  ·obtain rfl : k = 8 := by omega
   have hltd : decide (((8 : Nat) : Int) < 8) = false := by decide
   have HW := Lh (words_bd 8 r3)
   have HL := Lh (many_len Rs.word 8 r3)
   obtain ⟨⟨x4, r4⟩, hr4⟩ : ∃ y, Rs.many Rs.word 8 r3 = y := ⟨_, rfl⟩
   rw [hr4] at HX4 HW HL
   simp only [Nat.sub_self, List.replicate_zero, List.append_nil] at HX4 HW HL
   have HR4 := Lh hr4
   have H5 := Lh HX4.out.cWord
   have hpcb := word_bd r4
   obtain ⟨⟨x5, r5⟩, hr5⟩ : ∃ y, r4.word = y := ⟨_, rfl⟩
   rw [hr5] at H5 hpcb
   simp only at H5 hpcb
   have HR5 := Lh hr5
   clear hr4 hr5 hk hlt HP4
   go_wp2_with fail
   refine H5.out.mono ?_
   rintro e u5 ⟨rfl, hP⟩
   obtain ⟨m0, hl6, hlq6⟩ := hP.cells
   have f11 := hP.pb.frozen 11
   have c11 := hP.pb.cells.2.2.2.1
   have hP6 : PtSt S q p b2 b3 W (u5.setCell ⟨b3, 11, none⟩ (.int .u32 (x5 : Nat))) r5 { id := x1, size := x2, keep := x3, r := x4, pc := x5, st := 0, mem := [] } (.slice none 0 0) := hP.set 11 (.int .u32 (x5 : Nat)) (hP.pb.setPc x5)
   have H6 := Lh hP6.cByte
   obtain ⟨⟨x6, r6⟩, hr6⟩ : ∃ y, r5.byte = y := ⟨_, rfl⟩
   rw [hr6] at H6
   simp only at H6
   have HR6 := Lh hr6
   clear hr6 hP H5 hP6 HX4
   go_wp2_with fail
   refine H6.out.mono ?_
   rintro e u6 ⟨rfl, hP⟩
   obtain ⟨m1, hl7, hlq7⟩ := hP.cells
   have f12 := hP.pb.frozen 12
   have c12 := hP.pb.cells.2.2.2.2.1
   have hx6 := x6.toNat_lt
   have hP7 : PtSt S q p b2 b3 W (u6.setCell ⟨b3, 12, none⟩ (.int .u8 (x6.toNat : Nat))) r6 { id := x1, size := x2, keep := x3, r := x4, pc := x5, st := x6.toNat, mem := [] } (.slice none 0 0) := hP.set 12 (.int .u8 (x6.toNat : Nat)) (hP.pb.setSt x6.toNat)
   have H7 := Lh hP7.cBytes
   have hx7 := rdBytes_bd r6.l r6.er
   have hx7 : r6.bytes.1.length ≤ 65536 := hx7
   obtain ⟨⟨x7, r7⟩, hr7⟩ : ∃ y, r6.bytes = y := ⟨_, rfl⟩
   rw [hr7] at H7 hx7
   simp only at H7 hx7
   have HR7 := Lh hr7
   obtain ⟨y6, hy6⟩ : ∃ y, x6.toNat = y := ⟨_, rfl⟩
   rw [hy6] at H7 hP7 hx6
   rw [hy6]
   have HY6 := Lh hy6
   clear hr7 hP H6 hP7 m0 f11 c11 hy6
   go_wp2_with fail
   refine H7.out.mono ?_
   rintro e u7 ⟨A, c, rfl, hc1, hc2, ho, hP⟩
   obtain ⟨m2, hl8, hlq8⟩ := hP.cells
   have f13 := hP.pb.frozen 13
   have c13 := hP.pb.cells.2.2.2.2.2
   have hP8 : PtSt S q p b2 b3 W (u7.setCell ⟨b3, 13, none⟩ (.slice A x7.length c)) r7 { id := x1, size := x2, keep := x3, r := x4, pc := x5, st := y6, mem := x7 } (.slice A x7.length c) := hP.set 13 (.slice A x7.length c) ((hP.pb.setMem _).setList x7)
   have hst := setAt u7 b3 13 (.slice A x7.length c)
   have HM : Hid (BytesV (From (b3 + 1)) (u7.setCell ⟨b3, 13, none⟩ (.slice A x7.length c)) x7 (.slice A x7.length c)) := Lh (by
     have h1 := hP.b0; have h2 := hP.b1
     have hs6 : (u6.setCell ⟨b3, 12, none⟩ (.int .u8 (y6 : Nat))).heap.size = u6.heap.size := by simp [World.setCell]
     rw [hs6] at ho
     exact own_bytes ((ho.keep hst (fun b' o' e1 e2 e3 e4 => by have e4 : b' = b3 := e4; omega)).mono (by omega)) hc1 hc2)
   have hbd : Pt.Bd { id := x1, size := x2, keep := x3, r := x4, pc := x5, st := y6, mem := x7 } := ⟨HL.out, fun i => (by
     show x4.getD i 0 < 4294967296
     simp only [List.getD]
     cases hi : x4[i]? with
     | none => simp
     | some y => exact HW.out y (List.mem_of_getElem? hi)), hpcb, hx6, HX.out.1, HX.out.2⟩
   obtain ⟨C9, hC9⟩ : ∃ C, partC { id := x1, size := x2, keep := x3, r := x4, pc := x5, st := y6, mem := x7 } (.slice A x7.length c) = C := ⟨_, rfl⟩
   have hC9s : C9.size = 14 := by rw [← hC9]; exact partC_size HL.out _
   have hC91 : C9.all (·.oneCell') = true := by rw [← hC9]; exact partC_one _ _ rfl
   have hb9 : (u7.setCell ⟨b3, 13, none⟩ (.slice A x7.length c)).heap[b3]? = some (.cells C9 104 (0, 0)) := by rw [← hC9]; exact hP8.pb.out
   have HP8 := Lh hP8
   have HB9 := Lh hb9
   have HC9 := Lh hC9
   have HBd := Lh hbd
   have HL7 := Lh hx7
   clear hP ho hst hP8 hb9 hC9 hbd H7 m1 f12 c12 hx7
   go_wp2_with (first
     | (refine sel (some 47) (.load 104 (.tmp 3)) ?_; refine wpList_load_row rfl 104 (.tmp 3) rfl b3 rfl 104 C9 (0, 0) _ HB9.out Tryz.underlying104 rfl (by rw [hC9s]; exact info_part) ?_)
     | (refine sel none (.store 104 (.tmp 2) (.tmp 47)) ?_
        refine wpList_store_rowA rfl 104 (.tmp 2) (.tmp 47) rfl b2 C9 rfl rfl 104 zeroPart HP8.out.zb (by rw [hC9s]; exact info_part) (by rw [hC9s]; rfl) hC91 ?_
        intro w9 hgW9 hbW9))
   have h1 := HP8.out.b0
   have h2 := HP8.out.b1
   have h3 := HP8.out.q0
   have h4 := HP8.out.sr.Sq
   have hpt := HPt.out r1 r2 r3 r4 r5 r6 r7 x1 x2 x3 x4 x5 x6 x7 HR1.out HR2.out HR3.out HR4.out HR5.out HR6.out HR7.out
   refine bodyPost_ret (results_cell_row Tryz.results146 _ _ b2 104 _ (0, 0) _ rfl hbW9 Tryz.underlying104 rfl (by rw [hC9s]; exact info_part)) rfl ⟨C9, rfl, hC9s, hC91, ?_, ?_, ?_⟩
   ·rw [hpt, HY6.out]
    refine ⟨.slice A x7.length c, by rw [← HC9.out]; rfl, ?_, HBd.out, by show x7.length ≤ _; have := HL7.out; omega⟩
    exact (HM.out.keep hgW9 (fun b hb e => by have e : b = b2 := e; have hb : b3 + 1 ≤ b := hb; omega)).mono (fun b hb => by have hb : b3 + 1 ≤ b := hb; show W.heap.size ≤ b; omega)
   ·rw [hpt]
    exact HP8.out.sr.keep hgW9 (fun b hb e => by have e : b = b2 := e; omega) (fun e => by have e : q = b2 := e; omega)
   ·exact HP8.out.chg.then_new hgW9 (fun x e => by have e : x = b2 := e; omega)
end
section
open Go.RowKit
theorem bytes_gets (S q p : Nat) : Gets msgV oneA 1 S q p Rs.bytes 181 (.pointer (some ⟨p, 0, none⟩)) := by
 intro W r h
 refine (RBytes_B S p r.l r.er W h.rb).mono ?_
 rintro e w' ⟨A, c, rfl, h1, h2, h3, hb, hg⟩
 refine ⟨#[.slice A (rdBytes r.l r.er).1.length c], by simp [oneA], rfl, by simp [Value.oneCell'], ⟨.slice A (rdBytes r.l r.er).1.length c, rfl, own_bytes h3 h1 h2, by have := rdBytes_bd r.l r.er; show (rdBytes r.l r.er).1.length ≤ _; omega⟩, h.step hb hg, T2.at_ hg⟩
theorem rows_len {α : Type} (top : Nat) (f : Rs → α × Rs) (r : Rs) : (Rs.rows top f r).1.length ≤ top := by
 unfold Rs.rows Rs.count
 rw [many_len]
 have := count_bd top r.l r.er
 simp only
 omega
def zQuC : Array Value := #[.int .i64 0, .int .i64 0, .int .i64 0, .int .i64 0, .int .i64 0, .slice none 0 0]
structure ChSt (S q p b2 b3 : Nat) (W0 W : World) (r : Rs) (C : Array Value) : Prop where
 sr : IsSR S W q p r
 cb : W.heap[b3]? = some (.cells C 107 (0, 0))
 zb : W.heap[b2]? = some (.cells zQuC 110 (0, 0))
 chg : Chg (T2 p q) W0 W
 q0 : q < W0.heap.size
 b0 : W0.heap.size ≤ b2
 b1 : b2 < b3
namespace ChSt
variable {S q p b2 b3 : Nat} {W0 W W' : World} {r r' : Rs} {C : Array Value}
theorem call (h : ChSt S q p b2 b3 W0 W r C) (hs : IsSR S W' q p r') (hg : Chg (T2 p q) W W') : ChSt S q p b2 b3 W0 W' r' C := by
 have h1 := h.sr.pS; have h2 := h.sr.Sq; have h3 := h.q0; have h4 := h.b0; have h5 := h.b1
 exact ⟨hs, blk_keep h.cb hg (fun e => by rcases e with e | e <;> omega), blk_keep h.zb hg (fun e => by rcases e with e | e <;> omega), h.chg.trans_same hg, h3, h4, h5⟩
theorem cInt (h : ChSt S q p b2 b3 W0 W r C) : Calls Tryz.prog 142 #[.pointer (some ⟨p, 0, none⟩)] W fun e w' => e = .returned (.int .i64 r.int.1) ∧ ChSt S q p b2 b3 W0 w' r.int.2 C := by
 refine (RInt_B S p r.l r.er W h.sr.rb).mono ?_
 rintro e w' ⟨rfl, hb, hg⟩
 exact ⟨rfl, h.call (h.sr.step hb hg) (T2.at_ hg)⟩
theorem set (h : ChSt S q p b2 b3 W0 W r C) (i : Nat) (v : Value) : ChSt S q p b2 b3 W0 (W.setCell ⟨b3, i, none⟩ v) r (C.setIfInBounds i v) := by
 have h1 := h.sr.pS; have h2 := h.sr.Sq; have h3 := h.q0; have h4 := h.b0; have h5 := h.b1
 have hst := setAt W b3 i v
 exact ⟨h.sr.keep hst (fun b hb e => by have e : b = b3 := e; omega) (fun e => by have e : q = b3 := e; omega), blk_set i v h.cb, blk_keep h.zb hst (fun e => by have e : b2 = b3 := e; omega), h.chg.then_new hst (fun x e => by have e : x = b3 := e; omega), h3, h4, h5⟩
theorem cells (h : ChSt S q p b2 b3 W0 W r C) : W.cell? ⟨q, 0, none⟩ = some (.pointer (some ⟨p, 0, none⟩)) ∧ b3 < W.heap.size ∧ q < W.heap.size := ⟨h.sr.cells.1, blk_lt h.cb, h.sr.lt⟩
end ChSt
theorem queue_gets (S q p : Nat) : Gets quV aggA 6 S q p Rs.qu 148 (.pointer (some ⟨q, 0, none⟩)) := by
 intro W r h
 have HI := Lh (show Calls Tryz.prog 142 #[.pointer (some ⟨p, 0, none⟩)] (W.alloc (.cells zQuC 110)) fun e w' => e = .returned (.int .i64 r.int.1) ∧ IsRB S w' p r.int.2.l r.int.2.er ∧ Chg (At p) (W.alloc (.cells zQuC 110)) w' from RInt_B S p r.l r.er _ (h.non ((Chg.refl Non W).alloc _)).rb)
 have HS0 := Lh (h.non ((Chg.refl Non W).alloc (.cells zQuC 110)))
 obtain ⟨k0, _, _⟩ := h.cells
 have hq := h.lt
 have HQ : Hid (∀ r1 r2 r3 r4 r5 r6 x1 x2 x3 x4 x5 x6, r.int = (x1, r1) → r1.int = (x2, r2) → r2.int = (x3, r3) → r3.int = (x4, r4) → r4.int = (x5, r5) → Rs.rows 4 Rs.bytes r5 = (x6, r6) →
     Rs.qu r = (⟨⟨x1, x2, x3, x4, x5⟩, x6⟩, r6)) := Lh (by
   intro r1 r2 r3 r4 r5 r6 x1 x2 x3 x4 x5 x6 e1 e2 e3 e4 e5 e6
   unfold Rs.qu
   simp only [e1, e2, e3, e4, e5, e6])
 have HX1 := Lh (show I64 r.int.1 from rdInt_bd r.l r.er)
 have HSr := Lh (fun w' hb hg => HS0.out.step (w' := w') (l := r.int.2.l) (er := r.int.2.er) hb hg)
 have hst : ({ r with l := r.int.2.l, er := r.int.2.er } : Rs) = r.int.2 := rfl
 rw [hst] at HSr
 obtain ⟨⟨x1, r1⟩, hr1⟩ : ∃ y, r.int = y := ⟨_, rfl⟩
 rw [hr1] at HI HX1 HSr
 have HR1 := Lh hr1
 simp only at HI HX1 HSr
 clear h hst hr1
 unfold aggA
 go_enter Tryz.func148, Tryz.ntmps148
 go_wp2_with fail
 refine HI.out.mono ?_
 rintro e w1 ⟨rfl, hb, hg⟩
 have HS1 := Lh (HSr.out w1 hb hg)
 have HG1 := Lh ((Chg.refl (T2 p q) W).alloc (.cells zQuC 110) |>.trans_same (T2.at_ hg))
 have HZ1 := Lh (blk_keep (blk_new W (.cells zQuC 110)) hg (fun e => by have e : W.heap.size = p := e; have := HS0.out.pS; have := HS0.out.Sq; omega))
 have hlz := blk_lt HZ1.out
 have k1 := HS1.out.cells.1
 have hlq1 := HS1.out.lt
 clear hb hg HSr HI HS0 k0
 have hP0 := fun (hgn : Chg Non w1 (w1.alloc (.cells #[.int .i64 x1, .int .i64 0, .int .i64 0, .int .i64 0, .int .i64 0] 107))) => (⟨HS1.out.non hgn, blk_new _ _, blk_keep HZ1.out hgn (fun e => e), HG1.out.then_non hgn, hq, Nat.le_refl _, hlz⟩ : ChSt S q p W.heap.size w1.heap.size W (w1.alloc (.cells #[.int .i64 x1, .int .i64 0, .int .i64 0, .int .i64 0, .int .i64 0] 107)) r1 #[.int .i64 x1, .int .i64 0, .int .i64 0, .int .i64 0, .int .i64 0])
 have hP := hP0 ((Chg.refl Non w1).alloc _)
 clear hP0
 obtain ⟨b2, hb2⟩ : ∃ b, W.heap.size = b := ⟨_, rfl⟩
 rw [hb2] at hP
 have HB2 := Lh hb2
 have H2 := Lh hP.cInt
 have HX2 := Lh (show I64 r1.int.1 from rdInt_bd r1.l r1.er)
 obtain ⟨⟨x2, r2⟩, hr2⟩ : ∃ y, r1.int = y := ⟨_, rfl⟩
 rw [hr2] at H2 HX2
 simp only at H2 HX2
 have HR2 := Lh hr2
 clear hr2 hP HG1 HZ1
 go_wp2_with fail
 obtain ⟨b3, hb3⟩ : ∃ b, w1.heap.size = b := ⟨_, rfl⟩
 rw [hb3] at H2 ⊢
 clear hb2 hb3 hlz hq hlq1 k1
 refine H2.out.mono ?_
 rintro e w2 ⟨rfl, hP⟩
 obtain ⟨m1, hl1, hlq1⟩ := hP.cells
 have f1 := blk_free hP.cb 1
 have c1 := blk_cell hP.cb 1 (v := .int .i64 0) rfl
 have hQ : ChSt S q p b2 b3 W (w2.setCell ⟨b3, 1, none⟩ (.int .i64 x2)) r2 #[.int .i64 x1, .int .i64 x2, .int .i64 0, .int .i64 0, .int .i64 0] := hP.set 1 (.int .i64 x2)
 have H3 := Lh hQ.cInt
 have HX3 := Lh (show I64 r2.int.1 from rdInt_bd r2.l r2.er)
 obtain ⟨⟨x3, r3⟩, hr3⟩ : ∃ y, r2.int = y := ⟨_, rfl⟩
 rw [hr3] at H3 HX3
 simp only at H3 HX3
 have HR3 := Lh hr3
 clear hr3 hP hQ
 go_wp2_with fail
 clear f1 c1 m1 hl1 hlq1
 refine H3.out.mono ?_
 rintro e w3 ⟨rfl, hP⟩
 obtain ⟨m2, hl2, hlq2⟩ := hP.cells
 have f2 := blk_free hP.cb 2
 have c2 := blk_cell hP.cb 2 (v := .int .i64 0) rfl
 have hQ : ChSt S q p b2 b3 W (w3.setCell ⟨b3, 2, none⟩ (.int .i64 x3)) r3 #[.int .i64 x1, .int .i64 x2, .int .i64 x3, .int .i64 0, .int .i64 0] := hP.set 2 (.int .i64 x3)
 have H4 := Lh hQ.cInt
 have HX4 := Lh (show I64 r3.int.1 from rdInt_bd r3.l r3.er)
 obtain ⟨⟨x4, r4⟩, hr4⟩ : ∃ y, r3.int = y := ⟨_, rfl⟩
 rw [hr4] at H4 HX4
 simp only at H4 HX4
 have HR4 := Lh hr4
 clear hr4 hP hQ
 go_wp2_with fail
 clear f2 c2 m2 hl2 hlq2
 refine H4.out.mono ?_
 rintro e w4 ⟨rfl, hP⟩
 obtain ⟨m3, hl3, hlq3⟩ := hP.cells
 have f3 := blk_free hP.cb 3
 have c3 := blk_cell hP.cb 3 (v := .int .i64 0) rfl
 have hQ : ChSt S q p b2 b3 W (w4.setCell ⟨b3, 3, none⟩ (.int .i64 x4)) r4 #[.int .i64 x1, .int .i64 x2, .int .i64 x3, .int .i64 x4, .int .i64 0] := hP.set 3 (.int .i64 x4)
 have H5 := Lh hQ.cInt
 have HX5 := Lh (show I64 r4.int.1 from rdInt_bd r4.l r4.er)
 obtain ⟨⟨x5, r5⟩, hr5⟩ : ∃ y, r4.int = y := ⟨_, rfl⟩
 rw [hr5] at H5 HX5
 simp only at H5 HX5
 have HR5 := Lh hr5
 clear hr5 hP hQ
 go_wp2_with fail
 clear f3 c3 m3 hl3 hlq3
 refine H5.out.mono ?_
 rintro e w5 ⟨rfl, hP⟩
 obtain ⟨m4, hl4, hlq4⟩ := hP.cells
 have f4 := blk_free hP.cb 4
 have c4 := blk_cell hP.cb 4 (v := .int .i64 0) rfl
 have hQ : ChSt S q p b2 b3 W (w5.setCell ⟨b3, 4, none⟩ (.int .i64 x5)) r5 #[.int .i64 x1, .int .i64 x2, .int .i64 x3, .int .i64 x4, .int .i64 x5] := hP.set 4 (.int .i64 x5)
 have hP5 := hQ
 have HQs := Lh hP5
 clear hP hQ
 go_wp2_with fail
 clear f4 c4 m4 hl4 hlq4
 obtain ⟨V, hV⟩ : ∃ V, V = (w5.setCell ⟨b3, 4, none⟩ (.int .i64 x5)).drew := ⟨_, rfl⟩
 have HV : Hid (ChSt S q p b2 b3 W V r5 #[.int .i64 x1, .int .i64 x2, .int .i64 x3, .int .i64 x4, .int .i64 x5]) := Lh (by
   rw [hV]
   have h := HQs.out
   exact ⟨h.sr.non ((Chg.refl Non _).drew), h.cb, h.zb, h.chg.drew, h.q0, h.b0, h.b1⟩)
 clear HQs
 have HSt : Hid ((fun W' : World => W'.cell? ⟨q, 0, none⟩ = some (.pointer (some ⟨p, 0, none⟩)) ∧ W'.heap[b3]? = some (.cells #[.int .i64 x1, .int .i64 x2, .int .i64 x3, .int .i64 x4, .int .i64 x5] 107 (0, 0))) V) := Lh ⟨HV.out.cells.1, HV.out.cb⟩
 refine wp_region_held_drew (S := fun W' : World => W'.cell? ⟨q, 0, none⟩ = some (.pointer (some ⟨p, 0, none⟩)) ∧ W'.heap[b3]? = some (.cells #[.int .i64 x1, .int .i64 x2, .int .i64 x3, .int .i64 x4, .int .i64 x5] 107 (0, 0))) (by kernel_rfl) (by rw [← hV]; exact HSt.out) (fun hHeld => ?_)
 clear hHeld
 rw [← hV]
 clear hV
 refine h_load 0 (some 34) 107 (.tmp 3) b3 0 #[.int .i64 x1, .int .i64 x2, .int .i64 x3, .int .i64 x4, .int .i64 x5] _ rfl (by kernel_rfl) (by kernel_rfl) (by kernel_rfl) (by kernel_rfl) (by kernel_rfl) (fun _ _ _ h => h) (by kernel_rfl) (by kernel_rfl) (fun W hW => blk_range hW.2) Tryz.underlying107 rfl (by kernel_rfl) HSt.out ?_
 simp only [Act.put, sA, sB, sC]
 refine hp 1 35 (.pointer (some ⟨q, 0, none⟩)) rfl HSt.out ?_
 refine hp 2 36 (.pointer (some ⟨q, 0, none⟩)) rfl HSt.out ?_
 refine hp 3 37 (.pointer (some ⟨q, 0, none⟩)) rfl HSt.out ?_
 refine hp 4 38 (.pointer (some ⟨q, 0, none⟩)) rfl HSt.out ?_
 refine hp 5 39 (.pointer (some ⟨p, 0, none⟩)) rfl HSt.out ?_ (he := (fun W hW => by have hc := hW.1; go_simp))
 refine hp 6 40 (.func (.func 181) #[.pointer (some ⟨p, 0, none⟩)] #[]) rfl HSt.out ?_
 have HM := Lh (readMsg S q p 4 (by omega) Rs.bytes _ (bytes_gets S q p) r5 V HV.out.sr)
 obtain ⟨⟨x6, r6⟩, hr6⟩ : ∃ y, Rs.rows 4 Rs.bytes r5 = y := ⟨_, rfl⟩
 rw [hr6] at HM
 simp only at HM
 have HR6 := Lh hr6
 have hx6 : x6.length ≤ 4 := by have h := rows_len 4 Rs.bytes r5; rw [hr6] at h; exact h
 clear hr6
 refine h1o 7 rfl ?_
 intro K hK
 go_simp
 refine HM.out.mono ?_
 rintro e u ⟨mv, rfl, ho, hs, hg⟩
 have hPu := HV.out.call hs hg
 obtain ⟨A, c, rfl, hc1, hc2, hrd⟩ := ho.rd
 have HSt := Lh (show (fun W' : World => W'.cell? ⟨q, 0, none⟩ = some (.pointer (some ⟨p, 0, none⟩)) ∧ W'.heap[b3]? = some (.cells #[.int .i64 x1, .int .i64 x2, .int .i64 x3, .int .i64 x4, .int .i64 x5] 107 (0, 0))) u from ⟨hPu.cells.1, hPu.cb⟩)
 refine hK.out _ _ HSt.out (fun _ => ?_)
 have HPu := Lh hPu
 have HSl : Hid (SlV (msgV (From V.heap.size)) (From V.heap.size) 1 u x6 (.slice A x6.length c)) := Lh ⟨A, c, rfl, hc1, hc2, hrd.mono (fun b e => (ho.ge e).1) (fun a vs _ h => h.mono (fun b hb => hb.1))⟩
 have hVs := HV.out.cells.2.1
 clear hK K hs hg hPu ho hrd
 try simp only [Act.put, sA, sB, sC]
 refine hp 8 42 (.agg #[.int .i64 x1, .int .i64 x2, .int .i64 x3, .int .i64 x4, .int .i64 x5, .slice A x6.length c]) rfl HSt.out ?_ (he := (fun W hW => by kernel_rfl))
 have h1 := HPu.out.b0
 have h2 := HPu.out.b1
 have h3 := HPu.out.q0
 have h4 := HPu.out.sr.Sq
 have hbV := blk_lt HV.out.zb
 have hWV := HV.out.chg.size
 refine h_store 9 110 (.tmp 2) (.tmp 42) b2 #[.int .i64 x1, .int .i64 x2, .int .i64 x3, .int .i64 x4, .int .i64 x5, .slice A x6.length c] (by kernel_rfl) rfl (by kernel_rfl) rfl rfl rfl rfl 110 ⟨zQuC, HPu.out.zb, rfl⟩ (by kernel_rfl) (by simp [Value.oneCell']) (fun W' hg hb => ⟨hg.cell_some HSt.out.1 (fun e => by have e : q = b2 := e; omega), blk_keep HSt.out.2 hg (fun e => by have e : b3 = b2 := e; omega)⟩) ?_
 intro W9 hgW9 hbW9
 refine hdn ?_ _
 go_wp2_with fail
 have hqu := HQ.out r1 r2 r3 r4 r5 r6 x1 x2 x3 x4 x5 x6 HR1.out HR2.out HR3.out HR4.out HR5.out HR6.out
 refine bodyPost_ret (results_cell_row Tryz.results148 _ _ b2 110 _ (0, 0) _ rfl hbW9 Tryz.underlying110 rfl (by kernel_rfl)) rfl ⟨#[.int .i64 x1, .int .i64 x2, .int .i64 x3, .int .i64 x4, .int .i64 x5, .slice A x6.length c], rfl, rfl, Array.all_eq_true.1 <| all_one (vs := [.int .i64 x1, .int .i64 x2, .int .i64 x3, .int .i64 x4, .int .i64 x5, .slice A x6.length c]) (fun u hu => by
   simp only [List.mem_cons, List.not_mem_nil, or_false] at hu
   rcases hu with rfl | rfl | rfl | rfl | rfl | rfl <;> rfl), ?_, ?_, ?_⟩
 ·rw [hqu]
  have hn : ∀ b, From V.heap.size b → ¬ b = b2 := fun b hb e => by have hb : V.heap.size ≤ b := hb; omega
  have hm : ∀ b, From V.heap.size b → From W.heap.size b := fun b hb => by have hb : V.heap.size ≤ b := hb; show W.heap.size ≤ b; omega
  exact ⟨.slice A x6.length c, rfl, ((HSl.out.keep hgW9 hn (fun a vs _ h => h.keep hgW9 hn)).mono hm (fun a vs _ h => h.mono hm)), ⟨HX1.out, HX2.out, HX3.out, HX4.out, HX5.out⟩, by show x6.length ≤ _; omega⟩
 ·rw [hqu]
  exact HPu.out.sr.keep hgW9 (fun b hb e => by have e : b = b2 := e; omega) (fun e => by have e : q = b2 := e; omega)
 ·exact HPu.out.chg.then_new hgW9 (fun x e => by have e : x = b2 := e; omega)
end
end Go.Proofs.YtkgnlobabknkcaaGreat
