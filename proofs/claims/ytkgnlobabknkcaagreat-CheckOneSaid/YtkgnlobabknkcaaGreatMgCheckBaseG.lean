/- CheckBase, part 7 of 21: contracts of the functions that it reaches, and the laws that they need, merged and shortened (from my texts XClone, XFill, XFresh, XMay, XVmL). -/
import Derived.Test.YtkgnlobabknkcaaGreatMgCheckBaseC
import Derived.Test.YtkgnlobabknkcaaGreatMgCheckBaseD
import Derived.Test.YtkgnlobabknkcaaGreatMgCheckBaseF
import Derived.Laws.CopyOwn
namespace Go.Proofs.YtkgnlobabknkcaaGreat
set_option linter.unusedVariables false
set_option linter.unusedSimpArgs false
set_option maxHeartbeats 8000000
section
open Go.RowKit
theorem wpList_clone0 {P : Program} {α : Type} (R : World → α → List Value → Prop) {ops : Array Oper} {rest : List Oper} {o : Oper} {a : Act} {w : World} {Q : Exit → Act → World → Prop} (hgd : o.guard = none) (s x : Operand) (t : TypeId)
  (ho : o.op = .call { callee := .builtin .append, args := #[s, x], argTypes := #[t, t] }) (e : TypeId) (z : Value) (sz bytes : Nat) (ht : P.underlying t = some (.slice e)) (hi : (P.info? e).map (fun i => (i.zero, i.size, i.bytes)) = some (some z, sz, bytes))
  (hzs : z.cells.size = sz) (hsz : 0 < sz) (B g0 : Nat) (hs : a.eval s = .slice (some ⟨g0, 0, none⟩) 0 0) (hg0 : w.heap[g0]? = some (.cells #[] e (0, 0))) (hB : B ≤ g0) (ad : Addr) (c : Nat) (hx : a.eval x = .slice (some ad) 0 c)
  (h : ∀ v2 w2, OwnL R B e sz w2 v2 ([] : List α) → Chg (fun k => k = g0) w w2 → (∀ g, v2.ownBlock = some g → g = g0 ∨ g = w.heap.size) → wpList P ops Q rest (a.put o.dst v2) w2) : wpList P ops Q (o :: rest) a w := by
 obtain ⟨i0, hi0, hz0, hs0, hb0⟩ := info_parts hi
 have hown : w.ownsRow B e sz (.slice (some ⟨g0, 0, none⟩) 0 0) 0 [] := ⟨by simp, .inr ⟨g0, 0, #[], rfl, hB, hg0, Nat.le_refl _, by simp, by simp, by simp⟩⟩
 obtain ⟨v', w', h1, h2, h3, _, h5⟩ := run_append_own_at (P := P) w B t o.type e i0 z sz bytes ht hi0 hz0 hs0 hb0 hzs hsz _ 0 [] hown ad 0 c [] (by simp) (by simp) (by simp) (by unfold maxLen; omega) (by omega) (by have := blk_lt hg0; omega)
 refine wpList_plain hgd fun K hK => ?_
 unfold Oper.wp execOp
 simp only [ho, resolve, invoke, builtin, Sem.run_bind, Sem.run_pure, Result.andThen_ok, List.map_toArray, List.map_cons, List.map_nil, hs, hx, h1]
 refine hK _ _ (h v' w' ⟨[], by simpa using h2, rfl, (fun x h => by cases h), (fun i a x h => by simp at h)⟩ ((Chg.refl (fun k => k = g0) w).grown h3 fun g' hg' => .inl (by simpa [Value.ownBlock, eq_comm] using hg')) (fun g e => ?_))
 rcases h5 with h5 | h5
 ·rw [h5] at e
  exact .inl (by simpa [Value.ownBlock, eq_comm] using e)
 ·rw [h5] at e
  exact .inr (by simpa [eq_comm] using e)
def CloneP {α : Type} (R : World → α → List Value → Prop) (e : TypeId) (sz : Nat) (l : List α) (w : World) (en : Ending) (w' : World) : Prop := ∃ v, en = .returned v ∧ OwnL R w.heap.size e sz w' v l ∧ Chg Non w w'
theorem info_clPt : (Tryz.prog.info? 104).map (fun i => (i.zero, i.size, i.bytes)) = some (some (.agg #[.int .i64 0, .int .i64 0, .bool false, .int .u32 0, .int .u32 0, .int .u32 0, .int .u32 0, .int .u32 0, .int .u32 0, .int .u32 0, .int .u32 0, .int .u32 0, .int .u8 0, .slice none 0 0]), 14, 88) := by kernel_rfl
theorem eqlnil_Pt (B : Option Addr) (n c : Nat) (W : World) : (binOp .eql 22 (.slice B n c) (.slice none 0 0)).run Tryz.prog W = .ok (.bool B.isNone) W := by
 simp only [binOp]
 simp [run_equal_slice_nil W _ _ B n c Tryz.underlying22]
set_option maxRecDepth 100000 in
theorem clonePt {α : Type} (R : World → α → List Value → Prop) (I : Nat → Prop) (hm : ∀ S W W' a vs, Chg S W W' → (∀ b, b < W.heap.size → I b → ¬ S b) → R W a vs → R W' a vs) (hone : ∀ W a vs, R W a vs → ∀ u ∈ vs, u.oneCell' = true) (A : Option Addr) (l : List α) (c : Nat) (w : World)
  (hI : ∀ b, I b → b < w.heap.size) (hr : RdL R I 14 w A l) (hl : l.length ≤ 1000000) :
  Calls Tryz.prog 183 #[.slice A l.length c] w (CloneP R 104 14 l w) := by
 have HR := Lib.hid hr
 have hnil : ∀ (B : Option Addr) (n c : Nat) (W : World), (binOp .eql 22 (.slice B n c) (.slice none 0 0)).run Tryz.prog W = .ok (.bool B.isNone) W := fun B n c W => eqlnil_Pt B n c W
 cases A with
 | none =>
  have hl0 : l = [] := by
   cases l with
   | nil => rfl
   | cons x r => obtain ⟨b, o, vs, e, _⟩ := hr 0 x rfl; cases e
  subst hl0
  clear hr
  go_enter Tryz.func183, Tryz.ntmps183
  go_wp2_with fail
  go_ret
  exact ⟨_, rfl, OwnL.nil _ _ _ _ _, Chg.refl _ _⟩
 | some ad =>
  clear hr
  go_enter Tryz.func183, Tryz.ntmps183
  go_wp2_with (refine sel (some 7) (.call _) ?_; refine Vm_stop ?_)
  refine HoleV.mk ?_
  by_cases hl0 : l = []
  ·subst hl0
   refine wpList_clone0 R rfl (.tmp 5) (.tmp 6) 22 rfl 104 (.agg #[.int .i64 0, .int .i64 0, .bool false, .int .u32 0, .int .u32 0, .int .u32 0, .int .u32 0, .int .u32 0, .int .u32 0, .int .u32 0, .int .u32 0, .int .u32 0, .int .u8 0, .slice none 0 0]) 14 88 Tryz.underlying22 info_clPt rfl (by omega) w.heap.size w.heap.size rfl (blk_new _ _) (Nat.le_refl _) ad c rfl ?_
   intro v2 w2 ho hg hv
   have HO := Lib.hid ho
   have HG := Lib.hid (((Chg.refl Non w).alloc _).then_new hg (fun x hx => by omega))
   clear ho hg hv
   go_wp2_with fail
   go_ret
   exact ⟨_, rfl, HO.out, HG.out⟩
  ·obtain ⟨b, o2, e, hIb, _⟩ := HR.out.at_ (List.length_pos_iff.2 hl0)
   injection e with e
   subst e
   refine wpList_cloneL R rfl (.tmp 5) (.tmp 6) 22 rfl 104 (.agg #[.int .i64 0, .int .i64 0, .bool false, .int .u32 0, .int .u32 0, .int .u32 0, .int .u32 0, .int .u32 0, .int .u32 0, .int .u32 0, .int .u32 0, .int .u32 0, .int .u8 0, .slice none 0 0]) 14 88 Tryz.underlying22 info_clPt rfl (by omega) w.heap.size w.heap.size rfl (blk_new _ _) (Nat.le_refl _) I b o2 l c rfl hl0 (HR.out.non ((Chg.refl Non _).alloc _) (fun a vs h => hm _ _ _ _ _ ((Chg.refl Non _).alloc _) (fun _ _ _ e => e) h)) (hone _) hl (by omega) ?_ ?_
   ·intro w' a vs hg h
    exact hm _ _ _ _ _ hg (fun b _ hb e => by have := hI b hb; omega) h
   intro v2 w2 ho hg hv
   have HO := Lib.hid ho
   have HG := Lib.hid (((Chg.refl Non w).alloc _).then_new hg (fun x hx => by omega))
   clear ho hg hv
   go_wp2_with fail
   go_ret
   exact ⟨_, rfl, HO.out, HG.out⟩
theorem info_clQu : (Tryz.prog.info? 110).map (fun i => (i.zero, i.size, i.bytes)) = some (some (.agg #[.int .i64 0, .int .i64 0, .int .i64 0, .int .i64 0, .int .i64 0, .slice none 0 0]), 6, 64) := by kernel_rfl
theorem eqlnil_Qu (B : Option Addr) (n c : Nat) (W : World) : (binOp .eql 23 (.slice B n c) (.slice none 0 0)).run Tryz.prog W = .ok (.bool B.isNone) W := by
 simp only [binOp]
 simp [run_equal_slice_nil W _ _ B n c Tryz.underlying23]
set_option maxRecDepth 100000 in
theorem cloneQu {α : Type} (R : World → α → List Value → Prop) (I : Nat → Prop) (hm : ∀ S W W' a vs, Chg S W W' → (∀ b, b < W.heap.size → I b → ¬ S b) → R W a vs → R W' a vs) (hone : ∀ W a vs, R W a vs → ∀ u ∈ vs, u.oneCell' = true) (A : Option Addr) (l : List α) (c : Nat) (w : World)
  (hI : ∀ b, I b → b < w.heap.size) (hr : RdL R I 6 w A l) (hl : l.length ≤ 1000000) :
  Calls Tryz.prog 185 #[.slice A l.length c] w (CloneP R 110 6 l w) := by
 have HR := Lib.hid hr
 have hnil : ∀ (B : Option Addr) (n c : Nat) (W : World), (binOp .eql 23 (.slice B n c) (.slice none 0 0)).run Tryz.prog W = .ok (.bool B.isNone) W := fun B n c W => eqlnil_Qu B n c W
 cases A with
 | none =>
  have hl0 : l = [] := by
   cases l with
   | nil => rfl
   | cons x r => obtain ⟨b, o, vs, e, _⟩ := hr 0 x rfl; cases e
  subst hl0
  clear hr
  go_enter Tryz.func185, Tryz.ntmps185
  go_wp2_with fail
  go_ret
  exact ⟨_, rfl, OwnL.nil _ _ _ _ _, Chg.refl _ _⟩
 | some ad =>
  clear hr
  go_enter Tryz.func185, Tryz.ntmps185
  go_wp2_with (refine sel (some 7) (.call _) ?_; refine Vm_stop ?_)
  refine HoleV.mk ?_
  by_cases hl0 : l = []
  ·subst hl0
   refine wpList_clone0 R rfl (.tmp 5) (.tmp 6) 23 rfl 110 (.agg #[.int .i64 0, .int .i64 0, .int .i64 0, .int .i64 0, .int .i64 0, .slice none 0 0]) 6 64 Tryz.underlying23 info_clQu rfl (by omega) w.heap.size w.heap.size rfl (blk_new _ _) (Nat.le_refl _) ad c rfl ?_
   intro v2 w2 ho hg hv
   have HO := Lib.hid ho
   have HG := Lib.hid (((Chg.refl Non w).alloc _).then_new hg (fun x hx => by omega))
   clear ho hg hv
   go_wp2_with fail
   go_ret
   exact ⟨_, rfl, HO.out, HG.out⟩
  ·obtain ⟨b, o2, e, hIb, _⟩ := HR.out.at_ (List.length_pos_iff.2 hl0)
   injection e with e
   subst e
   refine wpList_cloneL R rfl (.tmp 5) (.tmp 6) 23 rfl 110 (.agg #[.int .i64 0, .int .i64 0, .int .i64 0, .int .i64 0, .int .i64 0, .slice none 0 0]) 6 64 Tryz.underlying23 info_clQu rfl (by omega) w.heap.size w.heap.size rfl (blk_new _ _) (Nat.le_refl _) I b o2 l c rfl hl0 (HR.out.non ((Chg.refl Non _).alloc _) (fun a vs h => hm _ _ _ _ _ ((Chg.refl Non _).alloc _) (fun _ _ _ e => e) h)) (hone _) hl (by omega) ?_ ?_
   ·intro w' a vs hg h
    exact hm _ _ _ _ _ hg (fun b _ hb e => by have := hI b hb; omega) h
   intro v2 w2 ho hg hv
   have HO := Lib.hid ho
   have HG := Lib.hid (((Chg.refl Non w).alloc _).then_new hg (fun x hx => by omega))
   clear ho hg hv
   go_wp2_with fail
   go_ret
   exact ⟨_, rfl, HO.out, HG.out⟩
theorem info_clBy : (Tryz.prog.info? 29).map (fun i => (i.zero, i.size, i.bytes)) = some (some (.slice none 0 0), 1, 24) := by kernel_rfl
theorem eqlnil_By (B : Option Addr) (n c : Nat) (W : World) : (binOp .eql 108 (.slice B n c) (.slice none 0 0)).run Tryz.prog W = .ok (.bool B.isNone) W := by
 simp only [binOp]
 simp [run_equal_slice_nil W _ _ B n c Tryz.underlying108]
set_option maxRecDepth 100000 in
theorem cloneBy {α : Type} (R : World → α → List Value → Prop) (I : Nat → Prop) (hm : ∀ S W W' a vs, Chg S W W' → (∀ b, b < W.heap.size → I b → ¬ S b) → R W a vs → R W' a vs) (hone : ∀ W a vs, R W a vs → ∀ u ∈ vs, u.oneCell' = true) (A : Option Addr) (l : List α) (c : Nat) (w : World)
  (hI : ∀ b, I b → b < w.heap.size) (hr : RdL R I 1 w A l) (hl : l.length ≤ 1000000) :
  Calls Tryz.prog 186 #[.slice A l.length c] w (CloneP R 29 1 l w) := by
 have HR := Lib.hid hr
 have hnil : ∀ (B : Option Addr) (n c : Nat) (W : World), (binOp .eql 108 (.slice B n c) (.slice none 0 0)).run Tryz.prog W = .ok (.bool B.isNone) W := fun B n c W => eqlnil_By B n c W
 cases A with
 | none =>
  have hl0 : l = [] := by
   cases l with
   | nil => rfl
   | cons x r => obtain ⟨b, o, vs, e, _⟩ := hr 0 x rfl; cases e
  subst hl0
  clear hr
  go_enter Tryz.func186, Tryz.ntmps186
  go_wp2_with fail
  go_ret
  exact ⟨_, rfl, OwnL.nil _ _ _ _ _, Chg.refl _ _⟩
 | some ad =>
  clear hr
  go_enter Tryz.func186, Tryz.ntmps186
  go_wp2_with (refine sel (some 7) (.call _) ?_; refine Vm_stop ?_)
  refine HoleV.mk ?_
  by_cases hl0 : l = []
  ·subst hl0
   refine wpList_clone0 R rfl (.tmp 5) (.tmp 6) 108 rfl 29 (.slice none 0 0) 1 24 Tryz.underlying108 info_clBy rfl (by omega) w.heap.size w.heap.size rfl (blk_new _ _) (Nat.le_refl _) ad c rfl ?_
   intro v2 w2 ho hg hv
   have HO := Lib.hid ho
   have HG := Lib.hid (((Chg.refl Non w).alloc _).then_new hg (fun x hx => by omega))
   clear ho hg hv
   go_wp2_with fail
   go_ret
   exact ⟨_, rfl, HO.out, HG.out⟩
  ·obtain ⟨b, o2, e, hIb, _⟩ := HR.out.at_ (List.length_pos_iff.2 hl0)
   injection e with e
   subst e
   refine wpList_cloneL R rfl (.tmp 5) (.tmp 6) 108 rfl 29 (.slice none 0 0) 1 24 Tryz.underlying108 info_clBy rfl (by omega) w.heap.size w.heap.size rfl (blk_new _ _) (Nat.le_refl _) I b o2 l c rfl hl0 (HR.out.non ((Chg.refl Non _).alloc _) (fun a vs h => hm _ _ _ _ _ ((Chg.refl Non _).alloc _) (fun _ _ _ e => e) h)) (hone _) hl (by omega) ?_ ?_
   ·intro w' a vs hg h
    exact hm _ _ _ _ _ hg (fun b _ hb e => by have := hI b hb; omega) h
   intro v2 w2 ho hg hv
   have HO := Lib.hid ho
   have HG := Lib.hid (((Chg.refl Non w).alloc _).then_new hg (fun x hx => by omega))
   clear ho hg hv
   go_wp2_with fail
   go_ret
   exact ⟨_, rfl, HO.out, HG.out⟩
end
section
open Go.RowKit
def fillL (n : Nat) (l : List UInt8) : List UInt8 := l ++ List.replicate (n - l.length) 0
theorem fillL_len {n : Nat} {l : List UInt8} (h : l.length ≤ n) : (fillL n l).length = n := by simp [fillL]; omega
theorem splice_fill (n : Nat) (l : List UInt8) (h : l.length ≤ n) : splice (List.replicate n (Value.int .u8 0)) 0 (l.map bv) = (fillL n l).map bv := by
 simp [splice, fillL, bv]
set_option maxRecDepth 100000 in
theorem fill_ok (I : Nat → Prop) (n : Nat) (l : List UInt8) (v : Value) (w : World) (hb : BytesV I w l v) (hn : n ≤ 512) (hl : l.length ≤ n) :
  Calls Tryz.prog 134 #[.int .i64 n, v] w fun e w' => ∃ m, e = .returned (.tuple #[m, .int .i64 0]) ∧ BytesV (From w.heap.size) w' (fillL n l) m ∧ Chg Non w w' := by
 obtain ⟨A, c, rfl, hc, hm, hr, _⟩ := hb
 have hmk : ∀ W : World, (Instr.makeSlice 29 (.int .i64 (n : Int)) (.int .i64 (n : Int))).run Tryz.prog W = .ok (.slice (some ⟨W.heap.size, 0, none⟩) n n) (W.alloc (.cells (Array.replicate n (.int .u8 0)) 5)) := fun W => by
  have := mk_bytes (n : Int) (by omega) (by omega) W
  simpa using this
 have HR := Lib.hid hr
 have HS := Lib.hid (splice_fill n l hl)
 have HF := Lib.hid (fillL_len hl)
 obtain ⟨X, hX⟩ : ∃ X, X = l.map bv := ⟨_, rfl⟩
 have HX := Lib.hid hX
 obtain ⟨Z, hZ⟩ : ∃ Z, Z = List.replicate n (Value.int .u8 0) := ⟨_, rfl⟩
 have HZ := Lib.hid hZ
 have hZa : Array.replicate n (Value.int .u8 0) = Z.toArray := by rw [hZ]; simp
 rw [hZa] at hmk
 clear hX hZ hZa hr
 go_enter Tryz.func134, Tryz.ntmps134
 go_wp2_with (refine sel (some 23) (.call _) ?_; refine Vm_stop ?_)
 refine HoleV.mk ?_
 refine wpList_copy_splice rfl (.tmp 21) (.tmp 22) 29 29 rfl 5 Tryz.underlying29 (by kernel_rfl) (some ⟨w.heap.size, 0, none⟩) A n n l.length c rfl rfl w.heap.size 0 Z 5 (blk_new _ _) X ?_ ?_ ?_ ?_ w.heap.size w ?_ (Nat.le_refl _) ?_
 ·have := HX.out; subst this; rw [List.length_map, Nat.min_eq_min]; omega
 ·intro h0
  refine ⟨rfl, ?_⟩
  have hx := HX.out
  have h0 : 0 < l.length := by rw [hx, List.length_map] at h0; exact h0
  obtain ⟨b, o, rfl, hlt, hat⟩ := HR.out.at_ h0
  refine ⟨_, rfl, fun j u hu => ?_⟩
  rw [hx, List.getElem?_map] at hu
  obtain ⟨y, hy, rfl⟩ := Option.map_eq_some_iff.1 hu
  rw [addr_none]
  obtain ⟨b', o', e', hy'⟩ := HR.out j y hy
  injection e' with e'
  injection e' with e1 e2 _
  subst e1 e2
  exact ((Chg.refl Non w).alloc _).cell_some hy' (fun e => e)
 ·have h1 := HX.out; have h2 := HZ.out; subst h1 h2; simp; exact hl
 ·intro u hu
  rw [HX.out] at hu
  obtain ⟨y, _, rfl⟩ := List.mem_map.1 hu
  rfl
 ·exact ((Chg.refl Non w).alloc _).below_non
 intro w2 hb2 hg2
 have HG := Lib.hid (Chg.of_below hg2 (Nat.le_refl _) : Chg Non w w2)
 have hlt := blk_lt hb2.out
 have HO : Hid (BytesV (From w.heap.size) w2 (fillL n l) (.slice (some ⟨w.heap.size, 0, none⟩) n n)) := by
  have h := hb2.out
  rw [HZ.out, HX.out, HS.out] at h
  refine Lib.hid ⟨_, n, by rw [HF.out], by rw [HF.out]; exact Nat.le_refl _, by unfold maxLen; omega, fun i x hx => ?_, fun b o e _ => ?_⟩
  ·refine ⟨w.heap.size, 0, rfl, ?_⟩
   rw [cell_of_row _ _ _ _ _ _ h, Nat.zero_add]
   simp [hx, bv]
  ·injection e with e
   injection e with e _ _
   exact Nat.le_of_eq e
 clear hb2 hg2
 go_wp2_with fail
 go_ret2
 exact ⟨_, rfl, HO.out, HG.out⟩
end
section
open Go.RowKit
theorem BytesV.bound {I : Nat → Prop} {w : World} {l : List UInt8} {v : Value} (h : BytesV I w l v) : BytesV (fun b => I b ∧ b < w.heap.size) w l v := by
 obtain ⟨A, c, h1, h2, h3, h4, h5⟩ := h
 refine ⟨A, c, h1, h2, h3, h4, fun b o e hl => ⟨h5 b o e hl, ?_⟩⟩
 subst e
 obtain ⟨b', o', e', hlt, _⟩ := h4.at_ (List.length_pos_iff.2 hl)
 injection e' with e'
 injection e' with e' _ _
 subst e'
 exact hlt
theorem ptV.bound {I : Nat → Prop} {w : World} {a : Pt} {vs : List Value} (h : ptV I w a vs) : ptV (fun b => I b ∧ b < w.heap.size) w a vs := by
 obtain ⟨m, h1, h2, h3⟩ := h
 exact ⟨m, h1, h2.bound, h3⟩
theorem msgV.bound {I : Nat → Prop} {w : World} {a : List UInt8} {vs : List Value} (h : msgV I w a vs) : msgV (fun b => I b ∧ b < w.heap.size) w a vs := by
 obtain ⟨m, h1, h2, h3⟩ := h
 exact ⟨m, h1, h2.bound, h3⟩
theorem rng_lt {w : World} {b o : Nat} {vs : List Value} (h : w.rangeAt b o vs) (h0 : 0 < vs.length) : b < w.heap.size := lt_of_cell (h 0 _ (List.getElem?_eq_getElem h0))
theorem SlV.bound {α : Type} {R R' : World → α → List Value → Prop} {I : Nat → Prop} {sz : Nat} {w : World} {l : List α} {v : Value} (hsz : 0 < sz) (h : SlV R I sz w l v) (hR : ∀ a vs, a ∈ l → R w a vs → R' w a vs) : SlV R' (fun b => I b ∧ b < w.heap.size) sz w l v := by
 obtain ⟨A, c, h1, h2, h3, h4⟩ := h
 refine ⟨A, c, h1, h2, h3, fun i a ha => ?_⟩
 obtain ⟨b, o, vs, e, hb, hl, hc, hr⟩ := h4 i a ha
 exact ⟨b, o, vs, e, ⟨hb, rng_lt hc (by omega)⟩, hl, hc, hR a vs (List.mem_of_getElem? ha) hr⟩
theorem quV.bound {I : Nat → Prop} {w : World} {a : Qu} {vs : List Value} (h : quV I w a vs) : quV (fun b => I b ∧ b < w.heap.size) w a vs := by
 obtain ⟨m, h1, h2, h3⟩ := h
 exact ⟨m, h1, h2.bound (by omega) (fun _ _ _ h => h.bound), h3⟩
theorem OwnL.mono {α : Type} {R R' : World → α → List Value → Prop} {B : Nat} {e : TypeId} {sz : Nat} {w : World} {v : Value} {l : List α} (h : OwnL R B e sz w v l) (hR : ∀ a vs, R w a vs → R' w a vs) : OwnL R' B e sz w v l := by
 obtain ⟨xss, h1, h2, h3, h4⟩ := h
 exact ⟨xss, h1, h2, h3, fun i a x ha hx => hR _ _ (h4 i a x ha hx)⟩
theorem OwnL.base {α : Type} {R : World → α → List Value → Prop} {B B' : Nat} {e : TypeId} {sz : Nat} {w : World} {v : Value} {l : List α} (h : OwnL R B e sz w v l) (hB : B' ≤ B) : OwnL R B' e sz w v l := by
 obtain ⟨xss, ⟨h1, h2⟩, h3⟩ := h
 refine ⟨xss, ⟨h1, ?_⟩, h3⟩
 rcases h2 with h0 | ⟨g, cap, cur, rfl, hb, hh, h4⟩
 ·exact .inl h0
 ·exact .inr ⟨g, cap, cur, rfl, by omega, hh, h4⟩
def Exc (B : Nat) (v : Value) : Nat → Prop := fun b => B ≤ b ∧ v.ownBlock ≠ some b
def freshP (a : Pn) : Pt := { id := a.id, size := a.size, keep := a.keep, r := List.replicate 8 0, pc := 0, st := 0, mem := fillL a.size.toNat a.img }
def freshQ (a : Ch) : Qu := ⟨a, []⟩
def freshS (c : Cfg) : Sta := ⟨0, c.ps.map freshP, c.cs.map freshQ⟩
theorem fits_part {c : Cfg} (h : fitsB c = true) {a : Pn} (ha : a ∈ c.ps) : ∃ n : Nat, a.size = n ∧ 16 ≤ n ∧ n ≤ 512 ∧ a.img.length ≤ n := by
 have h := (fits_iff.1 h).2.2.1
 unfold regionsBad at h
 rw [List.any_eq_false] at h
 have h := h a ha
 unfold regBad regMay at h
 simp at h
 refine ⟨a.size.toNat, ?_, ?_, ?_, ?_⟩ <;> omega
theorem fits_lens {c : Cfg} (h : fitsB c = true) : 1 ≤ c.ps.length ∧ c.ps.length ≤ 6 ∧ c.cs.length ≤ 8 := by
 obtain ⟨_, h2, _, _, h5⟩ := fits_iff.1 h
 unfold partsBad at h2
 unfold channelsBad at h5
 simp at h2 h5
 omega
theorem freshP_bd {a : Pn} (h : I64 a.id) (h2 : I64 a.size) : (freshP a).Bd := by
 refine ⟨by simp [freshP], fun i => ?_, by simp [freshP], by simp [freshP], h, h2⟩
 simp only [freshP, List.getD_eq_getElem?_getD, List.getElem?_replicate]
 split <;> simp
structure StaO (B : Nat) (w : World) (s : Sta) (b d : Value) : Prop where
 ps : OwnL (ptV (Exc B b)) B 104 14 w b s.parts
 qs : OwnL (quV (Exc B d)) B 110 6 w d s.queues
set_option maxRecDepth 100000 in
theorem fresh_ok (I : Nat → Prop) (w : World) (c : Cfg) (A1 A2 A3 : Option Addr) (c1 c2 c3 : Nat) (h : CfgR I w c A1 A2 A3 c1 c2 c3) (h20 : c.ps.length ≤ 1000) (hf : fitsB c = true) :
  Calls Tryz.prog 101 #[.agg #[.slice A1 c.ws.length c1, .slice A2 c.ps.length c2, .slice A3 c.cs.length c3]] w fun e w' => ∃ b d, e = .returned (.tuple #[.agg #[.int .i64 0, b, d], .int .i64 0]) ∧ StaO w.heap.size w' (freshS c) b d ∧ Chg Non w w' := by
 have HFt := Lib.hid (fun W (hg : Chg Non w W) => fits_ok I W c A1 A2 A3 c1 c2 c3 (h.non hg) h20)
 have HC := Lib.hid h
 have HP := Lib.hid (fun a (ha : a ∈ c.ps) => fits_part hf ha)
 have hl8 := (fits_lens hf).2.2
 rw [hf] at HFt
 clear h hf
 go_enter Tryz.func101, Tryz.ntmps101
 go_wp2_with fail
 refine (HFt.out _ (((Chg.refl Non w).alloc _).alloc _)).mono ?_
 rintro e u ⟨rfl, hg⟩
 obtain ⟨hb0, hb1, hlt, hgw⟩ := blk_call2 hg
 have HCu := Lib.hid (HC.out.non hgw)
 have k1 := blk_cell hb0 1 (v := .slice A2 c.ps.length c2) rfl
 have k2 := blk_cell hb0 2 (v := .slice A3 c.cs.length c3) rfl
 have hlt0 : w.heap.size < u.heap.size := by omega
 have HB0 := Lib.hid hb0
 have HB1 := Lib.hid hb1
 have HGW := Lib.hid hgw
 clear hg hb0 hb1 hgw
 have HV := Lib.hid ((Chg.refl Non u).alloc (.cells #[.int .i64 0, .slice none 0 0, .slice none 0 0] 25))
 go_wp2_with fail
 obtain ⟨v0, hv0⟩ : ∃ v, v = u.alloc (.cells #[.int .i64 0, .slice none 0 0, .slice none 0 0] 25) := ⟨_, rfl⟩
 rw [← hv0] at HV ⊢
 go_loopw [18] (fun iv wr => ∃ (k : Nat) (lv : Value), k ≤ c.ps.length ∧ iv = .int .i64 k ∧ Hid (OwnL (ptV (Exc (u.heap.size + 1) lv)) (u.heap.size + 1) 104 14 wr lv ((c.ps.take k).map freshP)) ∧ Hid (Chg (fun b => b = u.heap.size) v0 wr) ∧ Hid (wr.heap[u.heap.size]? = some (.cells #[.int .i64 0, lv, .slice none 0 0] 25 (0, 0)))) (fun iv _ => c.ps.length - (intOf iv).toNat)
 case atStart => exact ⟨0, _, Nat.zero_le _, rfl, Lib.hid (OwnL.nil _ _ _ _ _), Lib.hid (Chg.refl _ _), Lib.hid (by rw [hv0]; exact blk_new _ _)⟩
 case round =>
  obtain ⟨k, lv, hk, rfl, HO, HG, HB⟩ := hrel
  have HGu := Lib.hid (HV.out.then_new HG.out (fun x e => Nat.le_of_eq e.symm))
  have hlu := blk_lt HB.out
  by_cases hlt : k < c.ps.length
  ·obtain ⟨a, ha⟩ : ∃ a, c.ps[k]? = some a := ⟨_, List.getElem?_eq_getElem hlt⟩
   obtain ⟨b, o, m, rfl, k0, k1, k2, k3, k4, hbm, i1, i2, i3, hil, hbl⟩ := pn_at HCu.out.ps HGu.out ha
   have hltd : decide ((k : Int) < (c.ps.length : Int)) = true := by simpa using hlt
   obtain ⟨n, hn, hn1, hn2, hn3⟩ := HP.out a (List.mem_of_getElem? ha)
   have HS : Hid ((c.ps.take (k + 1)).map freshP = (c.ps.take k).map freshP ++ [freshP a]) := Lib.hid (by
     obtain ⟨hk, rfl⟩ := List.getElem?_eq_some_iff.1 ha
     rw [List.take_succ_eq_append_getElem hk, List.map_append]
     rfl)
   have hbd := Lib.hid (freshP_bd i1 i3)
   clear ha i1 i2 i3
   obtain ⟨x, y, z, kp, im⟩ := a
   simp only at k0 k1 k2 k3 k4 hbm hn hn3 hil
   subst hn
   have HBm := Lib.hid hbm
   obtain ⟨A4, c4, rfl, _⟩ := hbm
   go_wp2_with fail
   refine (fill_ok I n im _ _ (HBm.out.non ((Chg.refl _ _).alloc _)) hn2 hn3).mono ?_
   rintro e u3 ⟨m, rfl, hm, hg⟩
   have hb := blk_call hg
   have HGn := Lib.hid (((Chg.refl Non wr).alloc _).then_non hg)
   have HM := Lib.hid (hm.mono (I' := fun b => wr.heap.size ≤ b) (fun b (h : _ ≤ b) => by simp at h; omega))
   have m0 := blk_cell hb 0 (v := .int .i64 x) rfl
   have m2 := blk_cell hb 2 (v := .int .i64 n) rfl
   have m3 := blk_cell hb 3 (v := .bool kp) rfl
   have HB3 := Lib.hid (blk_keep HB.out HGn.out (fun e => e))
   have HO3 := Lib.hid (HO.out.non HGn.out (fun a vs h => h.keep HGn.out (fun _ _ e => e)))
   have f1 := blk_cell HB3.out 1 (v := lv) rfl
   have hlu3 := blk_lt HB3.out
   have hsz3 := HGn.out.size
   obtain ⟨A5, c5, rfl, hc5, hm5, _⟩ := hm
   clear hb hg HB k0 k1 k2 k3 k4
   go_wp2_with (first
     | (refine sel (some 41) (.build 104 _) ?_; refine wpList_valA rfl (some 41) (.agg #[.int .i64 x, .int .i64 n, .bool kp, .int .u32 0, .int .u32 0, .int .u32 0, .int .u32 0, .int .u32 0, .int .u32 0, .int .u32 0, .int .u32 0, .int .u32 0, .int .u8 0, .slice A5 (fillL n im).length c5]) rfl (by kernel_rfl) ?_)
     | (refine sel (some 43) (.call _) ?_; refine Vm_stop ?_))
   refine HoleV.mk ?_
   refine wpList_snocL (ptV (fun b => Exc (u.heap.size + 1) lv b ∧ b < u3.heap.size)) rfl (.tmp 32) (.tmp 42) 22 rfl (u.heap.size + 1) 104 _ 14 88 Tryz.underlying22 info_clPt rfl (by omega) lv ((c.ps.take k).map freshP) rfl ((HO3.out.mono (fun _ _ h => h.bound)).non ((Chg.refl Non u3).alloc _) (fun _ _ h => h.keep ((Chg.refl Non u3).alloc _) (fun _ _ e => e))) u3.heap.size (freshP ⟨x, y, n, kp, im⟩) #[.int .i64 x, .int .i64 n, .bool kp, .int .u32 0, .int .u32 0, .int .u32 0, .int .u32 0, .int .u32 0, .int .u32 0, .int .u32 0, .int .u32 0, .int .u32 0, .int .u8 0, .slice A5 (fillL n im).length c5] 104 rfl (blk_new _ _) rfl (by simp [Value.oneCell']) ?_ (by omega) (by simp; omega) (fun _ _ _ hg h => h.keep hg (fun b e => e.1.2)) ?_ ?_
   ·rw [List.length_map, List.length_take]; omega
   ·exact ⟨_, rfl, (HM.out.bound.non ((Chg.refl Non u3).alloc _)).mono (fun b e => ⟨⟨Nat.le_trans hlu e.1, fun e2 => by have := (HO.out.ge e2).2; omega⟩, e.2⟩), hbd.out, by have := fillL_len hn3; simp only [freshP, Int.toNat_natCast]; omega⟩
   intro v2 w2 ho hg hv
   have HO2 : Hid (OwnL (ptV (Exc (u.heap.size + 1) v2)) (u.heap.size + 1) 104 14 w2 v2 ((c.ps.take (k + 1)).map freshP)) := Lib.hid (by
     rw [HS.out]
     refine ho.mono (fun a vs h => h.mono (fun b e => ⟨e.1.1, fun e2 => ?_⟩))
     rcases hv b e2 with e3 | e3
     · exact e.1.2 e3
     · have := e.2; simp at e3; omega)
   have HG2 : Hid (Chg (fun b => b = u.heap.size) v0 w2) := Lib.hid (((HG.out.then_non HGn.out).alloc _).then_new hg (fun x e => by have := (HO.out.ge e).1; rw [hv0]; simp; omega))
   have HB2 := Lib.hid (blk_keep (blk_keep HB3.out ((Chg.refl Non _).alloc _) (fun e => e)) hg (fun e => by have := (HO.out.ge e).1; omega))
   have f2 := blk_free HB2.out 1
   have f3 := blk_cell HB2.out 1 (v := lv) rfl
   obtain ⟨A6, c6, hv6, hl6, hm6, _⟩ := ho.rd
   obtain ⟨n6, hn6⟩ : ∃ q, ((c.ps.take k).map freshP ++ [freshP ⟨x, y, n, kp, im⟩]).length = q := ⟨_, rfl⟩
   rw [hn6] at hv6
   subst hv6
   clear ho hg hv m0 m2 m3 f1
   go_wp2_with fail
   have hst := chg_set w2 u.heap.size 1 (.slice A6 n6 c6)
   exact ⟨⟨k + 1, _, by omega, by simp, Lib.hid (HO2.out.keep hst (fun g e e2 => by have := (HO2.out.ge e).1; omega) (fun a vs h => h.keep hst (fun b e e2 => by have := e.1; omega))), Lib.hid (HG2.out.trans_same hst), Lib.hid (blk_set 1 _ HB2.out)⟩, by simp [intOf]; omega⟩
  ·obtain rfl : k = c.ps.length := by omega
   have hltd : decide ((c.ps.length : Int) < (c.ps.length : Int)) = false := by simp
   rw [List.take_length] at HO
   have hc0 := blk_cell (blk_keep HB0.out HGu.out (fun e => e)) 2 (v := .slice A3 c.cs.length c3) rfl
   have hw0 : w.heap.size < wr.heap.size := by omega
   go_wp2_with fail
   obtain ⟨w1, hw1⟩ : ∃ x, x = wr := ⟨_, rfl⟩
   subst hw1
   go_loopw [49] (fun iv wr => ∃ (k : Nat) (lq : Value), k ≤ c.cs.length ∧ iv = .int .i64 k ∧ Hid (OwnL (quV Non) w1.heap.size 110 6 wr lq ((c.cs.take k).map freshQ)) ∧ Hid (Chg (fun b => b = u.heap.size) w1 wr) ∧ Hid (wr.heap[u.heap.size]? = some (.cells #[.int .i64 0, lv, lq] 25 (0, 0)))) (fun iv _ => c.cs.length - (intOf iv).toNat)
   case atStart => exact ⟨0, _, Nat.zero_le _, rfl, Lib.hid (OwnL.nil _ _ _ _ _), Lib.hid (Chg.refl _ _), HB⟩
   case round =>
    obtain ⟨k, lq, hk, rfl, HO2, HG2, HB2⟩ := hrel
    have HG2u := Lib.hid (HGu.out.then_new HG2.out (fun x e => Nat.le_of_eq e.symm))
    have hlu2 := blk_lt HB2.out
    have hw12 := HG2.out.size
    by_cases hlt : k < c.cs.length
    ·obtain ⟨a, ha⟩ : ∃ a, c.cs[k]? = some a := ⟨_, List.getElem?_eq_getElem hlt⟩
     obtain ⟨b, o, rfl, k0, k1, k2, k3, k4, hbd, hbl⟩ := ch_at HCu.out.cs HG2u.out ha
     have hltd : decide ((k : Int) < (c.cs.length : Int)) = true := by simpa using hlt
     have HS : Hid ((c.cs.take (k + 1)).map freshQ = (c.cs.take k).map freshQ ++ [freshQ a]) := Lib.hid (by
       obtain ⟨hk, rfl⟩ := List.getElem?_eq_some_iff.1 ha
       rw [List.take_succ_eq_append_getElem hk, List.map_append]
       rfl)
     have f1 := blk_cell HB2.out 2 (v := lq) rfl
     have HBD := Lib.hid hbd
     clear ha hbd
     obtain ⟨x1, x2, x3, x4, x5⟩ := a
     simp only at k0 k1 k2 k3 k4
     go_wp2_with (first
       | (refine sel (some 56) (.build 110 _) ?_; refine wpList_valA rfl (some 56) (.agg #[.int .i64 x1, .int .i64 x2, .int .i64 x3, .int .i64 x4, .int .i64 x5, .slice none 0 0]) rfl (by kernel_rfl) ?_)
       | (refine sel (some 58) (.call _) ?_; refine Vm_stop ?_))
     refine HoleV.mk ?_
     refine wpList_snocL (quV Non) rfl (.tmp 54) (.tmp 57) 23 rfl w1.heap.size 110 _ 6 64 Tryz.underlying23 info_clQu rfl (by omega) lq ((c.cs.take k).map freshQ) rfl (HO2.out.non (((Chg.refl Non wr).alloc _).alloc _) (fun _ _ h => h.keep (((Chg.refl Non wr).alloc _).alloc _) (fun _ _ e => e))) (wr.heap.size + 1) (freshQ ⟨x1, x2, x3, x4, x5⟩) #[.int .i64 x1, .int .i64 x2, .int .i64 x3, .int .i64 x4, .int .i64 x5, .slice none 0 0] 110 rfl (heap_alloc2_new _ _ _) rfl (by simp [Value.oneCell']) ?_ (by omega) (by simp; omega) (fun _ _ _ hg h => h.keep hg (fun b e => e.elim)) ?_ ?_
     ·rw [List.length_map, List.length_take]; omega
     ·exact ⟨_, rfl, ⟨none, 0, rfl, Nat.le_refl _, by simp, RdL.nil _ _ _ _ _⟩, HBD.out, by simp [freshQ]⟩
     intro v2 w2 ho hg hv
     have HO3 : Hid (OwnL (quV Non) w1.heap.size 110 6 w2 v2 ((c.cs.take (k + 1)).map freshQ)) := Lib.hid (by rw [HS.out]; exact ho)
     have HG3 : Hid (Chg (fun b => b = u.heap.size) w1 w2) := Lib.hid (((HG2.out.alloc _).alloc _).then_new hg (fun x e => (HO2.out.ge e).1))
     have HB3 := Lib.hid (blk_keep (blk_keep HB2.out (((Chg.refl Non _).alloc _).alloc _) (fun e => e)) hg (fun e => by have := (HO2.out.ge e).1; omega))
     have f2 := blk_free HB3.out 2
     have f3 := blk_cell HB3.out 2 (v := lq) rfl
     obtain ⟨A6, c6, hv6, hl6, hm6, _⟩ := ho.rd
     obtain ⟨n6, hn6⟩ : ∃ q, ((c.cs.take k).map freshQ ++ [freshQ ⟨x1, x2, x3, x4, x5⟩]).length = q := ⟨_, rfl⟩
     rw [hn6] at hv6
     subst hv6
     clear ho hg hv k0 k1 k2 k3 k4 f1
     go_wp2_with fail
     have hst := chg_set w2 u.heap.size 2 (.slice A6 n6 c6)
     exact ⟨⟨k + 1, _, by omega, by simp, Lib.hid (HO3.out.keep hst (fun g e e2 => by have := (HO3.out.ge e).1; omega) (fun a vs h => h.keep hst (fun b e e2 => e))), Lib.hid (HG3.out.trans_same hst), Lib.hid (blk_set 2 _ HB3.out)⟩, by simp [intOf]; omega⟩
    ·obtain rfl : k = c.cs.length := by omega
     have hltd : decide ((c.cs.length : Int) < (c.cs.length : Int)) = false := by simp
     rw [List.take_length] at HO2
     have hb0 := blk_keep HB1.out HG2u.out (fun e => e)
     have HR := Lib.hid hb0
     have HOp := Lib.hid (HO.out.keep HG2.out (fun g e e2 => by have := (HO.out.ge e).1; omega) (fun a vs h => h.keep HG2.out (fun b e e2 => by have := e.1; omega)))
     have s0 := blk_cell HB2.out 0 (v := .int .i64 0) rfl
     have s1 := blk_cell HB2.out 1 (v := lv) rfl
     have s2 := blk_cell HB2.out 2 (v := lq) rfl
     have o1 : lv.oneCell' = true := by obtain ⟨A, c, e, _⟩ := HO.out.rd; rw [e]; rfl
     have o2 : lq.oneCell' = true := by obtain ⟨A, c, e, _⟩ := HO2.out.rd; rw [e]; rfl
     have hu0 := HGW.out.size
     clear hb0
     go_wp2_with (refine sel none (.store 25 (.tmp 2) (.tmp 61)) ?_
                  refine wpList_store_rowA rfl 25 (.tmp 2) (.tmp 61) rfl (w.heap.size + 1) #[.int .i64 0, lv, lq] rfl rfl 25 _ HR.out (by kernel_rfl) rfl (by simp [Value.oneCell']; exact ⟨o1, o2⟩) ?_
                  intro W hgW hbW)
     have HW1 := Lib.hid (HOp.out.keep hgW (fun g e e2 => by have := (HOp.out.ge e).1; omega) (fun a vs h => h.keep hgW (fun b e e2 => by have := e.1; omega)))
     have HW2 := Lib.hid (HO2.out.keep hgW (fun g e e2 => by have := (HO2.out.ge e).1; omega) (fun a vs h => h.keep hgW (fun b e e2 => e)))
     have HWG := Lib.hid ((HGW.out.then_non HG2u.out).then_new hgW (fun x e => by omega))
     exact bodyPost_ret (res_ct Tryz.results101 _ _ (w.heap.size + 1) 25 #[.int .i64 0, lv, lq] (0, 0) _ _ rfl rfl hbW Tryz.underlying25 rfl (by kernel_rfl)) (by kernel_rfl) ⟨lv, lq, rfl, ⟨(HW1.out.base (by omega)).mono (fun _ _ h => h.mono (fun b e => ⟨by have := e.1; omega, e.2⟩)), (HW2.out.base (by omega)).mono (fun _ _ h => h.mono (fun b e => e.elim))⟩, HWG.out⟩
end
section
open Go.RowKit
def partOk (p : Pt) : Bool := decide (1 ≤ p.id) && decide (p.id ≤ 6) && regMay 0 p.size && decide ((p.mem.length : Int) = p.size) && decide ((p.st : Int) ≤ 4)
set_option maxRecDepth 100000 in
theorem spart_ok (p : Pt) (A : Option Addr) (c : Nat) (w : World) (h8 : p.r.length = 8) :
  Calls Tryz.prog 58 #[.agg (partC p (.slice A p.mem.length c))] w fun e w' => e = .returned (.bool (partOk p)) ∧ Chg Non w w' := by
 have HM := Lib.hid (fun W => regMay_ok 0 p.size W)
 have HE : Hid (partOk p = (decide (1 ≤ p.id) && decide (p.id ≤ 6) && regMay 0 p.size && decide ((p.mem.length : Int) = p.size) && decide ((p.st : Int) ≤ 4))) := Lib.hid rfl
 obtain ⟨C, hC⟩ : ∃ C, partC p (.slice A p.mem.length c) = C := ⟨_, rfl⟩
 have hb : PartB (w.alloc (.cells C 104)) w.heap.size p (.slice A p.mem.length c) := ⟨by unfold PartAt; rw [hC]; exact blk_new _ _, h8⟩
 have HB := Lib.hid hb
 obtain ⟨k0, k1, _, _, k12, k13⟩ := hb.cells
 rw [hC]
 obtain ⟨i, s, kp, r, pc, st, mem⟩ := p
 simp only at *
 obtain ⟨m, hm⟩ : ∃ m, regMay 0 s = m := ⟨_, rfl⟩
 obtain ⟨n, hn⟩ : ∃ n, mem.length = n := ⟨_, rfl⟩
 rw [hn] at k13 HB HE
 rw [hm] at HM HE
 clear hm hn hC hb
 by_cases h1 : 1 ≤ i
 ·by_cases h2 : i ≤ 6
  ·have d1 : decide (1 ≤ i) = true := by simpa using h1
   have d2 : decide (i ≤ 6) = true := by simpa using h2
   go_enter Tryz.func58, Tryz.ntmps58
   go_wp2_with fail
   refine (HM.out _).mono ?_
   rintro e u ⟨rfl, hg⟩
   have HB2 := Lib.hid (HB.out.non hg)
   obtain ⟨k0, k1, _, _, k12, k13⟩ := HB2.out.cells
   have HG := Lib.hid (((Chg.refl Non w).alloc _).then_non hg)
   clear hg HB
   go_wp2_with fail
   all_goals go_ret
   all_goals refine ⟨ret_b ?_, HG.out⟩
   all_goals rw [HE.out, Bool.eq_iff_iff]
   all_goals first
    | (simp_all; done)
    | (simp_all; omega)
    | trace_state
  ·have d1 : decide (1 ≤ i) = true := by simpa using h1
   have d2 : decide (i ≤ 6) = false := by simpa using h2
   go_enter Tryz.func58, Tryz.ntmps58
   go_wp2_with fail
   go_ret
   exact ⟨ret_b (by rw [HE.out, d1, d2]; rfl), (Chg.refl Non w).alloc _⟩
 ·have d1 : decide (1 ≤ i) = false := by simpa using h1
  go_enter Tryz.func58, Tryz.ntmps58
  go_wp2_with fail
  go_ret
  exact ⟨ret_b (by rw [HE.out, d1]; rfl), (Chg.refl Non w).alloc _⟩
theorem msgV_non {I : Nat → Prop} : ∀ W W' a vs, Chg Non W W' → msgV I W a vs → msgV I W' a vs := fun _ _ _ _ hg h => h.keep hg (fun _ _ e => e)
theorem quV_non {I : Nat → Prop} : ∀ W W' a vs, Chg Non W W' → quV I W a vs → quV I W' a vs := fun _ _ _ _ hg h => h.keep hg (fun _ _ e => e)
theorem ptV_non {I : Nat → Prop} : ∀ W W' a vs, Chg Non W W' → ptV I W a vs → ptV I W' a vs := fun _ _ _ _ hg h => h.keep hg (fun _ _ e => e)
theorem SlV.non {α : Type} {R : World → α → List Value → Prop} {I : Nat → Prop} {sz : Nat} {w w' : World} {l : List α} {v : Value} (h : SlV R I sz w l v) (hg : Chg Non w w') (hR : ∀ a vs, R w a vs → R w' a vs) : SlV R I sz w' l v := h.keep hg (fun _ _ e => e) (fun a vs _ => hR a vs)
set_option maxRecDepth 100000 in
theorem long_ok (size : Int) (A : Option Addr) (n c g : Nat) (w : World) (h : w.cell? ⟨g, 4, none⟩ = some (.int .i64 size)) :
  Calls Tryz.prog 103 #[.slice A n c, .pointer (some ⟨g, 0, none⟩)] w fun e w' => e = .returned (.bool (decide (size < (n : Int)))) ∧ Chg Non w w' := by
 go_enter Tryz.func103, Tryz.ntmps103
 go_wp2_with fail
 go_ret
 exact ⟨rfl, Chg.refl _ _⟩
def mayQ (q : Qu) : Bool := q.ch.may && decide ((q.msgs.length : Int) ≤ q.ch.cap) && !q.msgs.any fun m => decide (q.ch.size < (m.length : Int))
set_option maxRecDepth 100000 in
theorem mayQueue_ok (I : Nat → Prop) (q : Qu) (v : Value) (w : World) (h : SlV (msgV I) I 1 w q.msgs v) :
  Calls Tryz.prog 59 #[.agg (q.L v).toArray] w fun e w' => e = .returned (.bool (mayQ q)) ∧ Chg Non w w' := by
 obtain ⟨A, c, rfl, hc, hcm, hr⟩ := h
 have HR := Lib.hid hr
 have HM := Lib.hid (fun W => chMay_ok q.ch.id q.ch.src q.ch.dst q.ch.cap q.ch.size W)
 have HE : Hid (mayQ q = (q.ch.may && decide ((q.msgs.length : Int) ≤ q.ch.cap) && !q.msgs.any fun m => decide (q.ch.size < (m.length : Int)))) := Lib.hid rfl
 have HA := Lib.hid (fun W (hg : Chg Non w W) g (hb : ∀ W', Chg Non W W' → W'.cell? ⟨g, 4, none⟩ = some (.int .i64 q.ch.size)) => anyMay (msgV I) I msgV_non (fun m => decide (q.ch.size < (m.length : Int))) (.pointer (some ⟨g, 0, none⟩)) A q.msgs c W (hr.non hg (fun a vs h => msgV_non _ _ _ _ hg h)) (by
   rintro W' a vs hg2 ha ⟨m, rfl, ⟨A2, c2, rfl, _⟩, _⟩
   exact long_ok q.ch.size A2 a.length c2 g W' (hb W' hg2)) hc hcm)
 clear hr
 obtain ⟨⟨i, s, d, cap, sz⟩, ms⟩ := q
 simp only [Ch.may] at *
 obtain ⟨m, hm⟩ : ∃ m, chMay i s d cap sz = m := ⟨_, rfl⟩
 obtain ⟨x, hx⟩ : ∃ x, (ms.any fun m => decide (sz < (m.length : Int))) = x := ⟨_, rfl⟩
 rw [hx] at HE
 simp only [hx] at HA
 rw [hm] at HM HE
 clear hm hx
 show Calls _ _ #[.agg #[.int .i64 i, .int .i64 s, .int .i64 d, .int .i64 cap, .int .i64 sz, .slice A ms.length c]] _ _
 go_enter Tryz.func59, Tryz.ntmps59
 go_wp2_with fail
 refine (HM.out _).mono ?_
 rintro e u ⟨rfl, hg⟩
 have hb := blk_call hg
 have HB := Lib.hid hb
 have HG := Lib.hid (((Chg.refl Non w).alloc _).then_non hg)
 have k3 := blk_cell hb 3 (v := .int .i64 cap) rfl
 have k5 := blk_cell hb 5 (v := .slice A ms.length c) rfl
 clear hg hb
 cases m with
 | false =>
  go_wp2_with fail
  go_ret
  exact ⟨ret_b (by rw [HE.out]; rfl), HG.out⟩
 | true =>
  by_cases h1 : (ms.length : Int) ≤ cap
  ·have d1 : decide ((ms.length : Int) ≤ cap) = true := by simpa using h1
   go_wp2_with fail
   refine (HA.out _ HG.out _ (fun W' hg => blk_cell (blk_keep HB.out hg (fun e => e)) 4 (v := .int .i64 sz) rfl)).mono ?_
   rintro e u2 ⟨rfl, hg⟩
   have HG2 := Lib.hid (HG.out.then_non hg)
   clear hg
   go_wp2_with fail
   go_ret
   exact ⟨ret_b (by rw [HE.out, d1]; simp), HG2.out⟩
  ·have d1 : decide ((ms.length : Int) ≤ cap) = false := by simpa using h1
   go_wp2_with fail
   go_ret
   exact ⟨ret_b (by rw [HE.out, d1]; rfl), HG.out⟩
end
section
open Go.RowKit
theorem al_2_0 (w : World) (a b : Obj) : ((w.alloc a).alloc b).heap[w.heap.size]? = some a := by
 rw [Below.heap_alloc _ _ _ (by simp), heap_alloc_new]
theorem al_2_1 (w : World) (a b : Obj) : ((w.alloc a).alloc b).heap[w.heap.size + 1]? = some b := by
 rw [show w.heap.size + 1 = (w.alloc a).heap.size by simp, heap_alloc_new]
theorem al_3_0 (w : World) (a b c : Obj) : (((w.alloc a).alloc b).alloc c).heap[w.heap.size]? = some a := by
 rw [Below.heap_alloc _ _ _ (by simp; omega), al_2_0]
theorem al_3_1 (w : World) (a b c : Obj) : (((w.alloc a).alloc b).alloc c).heap[w.heap.size + 1]? = some b := by
 rw [Below.heap_alloc _ _ _ (by simp), al_2_1]
theorem al_3_2 (w : World) (a b c : Obj) : (((w.alloc a).alloc b).alloc c).heap[w.heap.size + 1 + 1]? = some c := by
 rw [show w.heap.size + 1 + 1 = ((w.alloc a).alloc b).heap.size by simp, heap_alloc_new]
theorem partC_one (p : Pt) (m : Value) (hm : m.oneCell' = true) : (partC p m).all (·.oneCell') = true := by
 simp only [partC, partL, List.all_toArray]
 rw [List.all_eq_true]
 intro v hv
 simp only [List.mem_cons, List.mem_append, List.mem_map, List.not_mem_nil, or_false] at hv
 rcases hv with rfl | rfl | rfl | ⟨n, _, rfl⟩ | rfl | rfl | rfl
 all_goals first | rfl | exact hm
def zeroPart : Array Value := #[.int .i64 0, .int .i64 0, .bool false, .int .u32 0, .int .u32 0, .int .u32 0, .int .u32 0, .int .u32 0, .int .u32 0, .int .u32 0, .int .u32 0, .int .u32 0, .int .u8 0, .slice none 0 0]
set_option maxRecDepth 100000 in
theorem Copy_ok (p : Pt) (A : Option Addr) (l : List UInt8) (c : Nat) (w : World) (h8 : p.r.length = 8) (hr : Rd w A l) (hl : l.length ≤ 140737488355328) :
  Calls Tryz.prog 184 #[.agg (partC p (.slice A l.length c))] w fun e w' => ∃ A2 c2, e = .returned (.agg (partC p (.slice A2 l.length c2))) ∧ l.length ≤ c2 ∧ c2 ≤ maxLen ∧ Own w.heap.size w' A2 l ∧ Chg Non w w' := by
 have HR := Lib.hid hr
 obtain ⟨C, hC⟩ : ∃ C, partC p (.slice A l.length c) = C := ⟨_, rfl⟩
 have hsz : C.size = 14 := by rw [← hC]; exact partC_size h8 _
 have e13 : C[13]'(by omega) = .slice A l.length c := by
  have h := partC_end h8 (.slice A l.length c) 2 (by omega)
  rw [hC] at h
  rw [Array.getElem?_eq_getElem (by omega)] at h
  simpa using h
 have HC := Lib.hid hC
 rw [hC]
 clear hC hr
 go_enter Tryz.func184, Tryz.ntmps184
 go_wp2_with fail
 have HZ : Hid (Chg Non w ((w.alloc (.cells C 104)).alloc (.cells zeroPart 104))) := Lib.hid (((Chg.refl Non w).alloc _).alloc _)
 refine (SlClone_ok A l c _ (HR.out.non HZ.out) hl).mono ?_
 rintro e w1 ⟨A2, c2, rfl, q1, q2, q3, q4⟩
 have HO := Lib.hid (q3.mono (show w.heap.size + 2 ≤ _ by simp))
 have HG := Lib.hid (HZ.out.then_non q4)
 have HB0 := Lib.hid (blockN q4 (al_2_0 w _ _))
 have HB1 := Lib.hid (blockN q4 (al_2_1 w (.cells C 104) (.cells zeroPart 104)))
 have hp0 : PartB w1 w.heap.size p (.slice A l.length c) := ⟨by unfold PartAt; rw [HC.out]; exact HB0.out, h8⟩
 have HP := Lib.hid hp0
 have hlt := hp0.lt
 have hf := hp0.frozen 13
 have hc13 := hp0.cells.2.2.2.2.2
 clear q3 q4 hp0 e13
 go_wp2_with (refine sel (some 7) (.load _ _) ?_; refine Vm_stop ?_)
 refine HoleV.mk ?_
 have hp1 := HP.out.setMem (.slice A2 l.length c2)
 have HG1 := Lib.hid (HG.out.then_new (setAt w1 w.heap.size 13 (.slice A2 l.length c2)) (fun x e => by omega))
 have HO1 := Lib.hid (HO.out.keep (setAt w1 w.heap.size 13 (.slice A2 l.length c2)) (fun b' o' e1 e2 e3 e4 => by omega))
 have HB11 := Lib.hid (blockS HB1.out (setAt w1 w.heap.size 13 (.slice A2 l.length c2)) (by omega))
 have HP1 := Lib.hid hp1
 refine wpList_load_row rfl 104 (.tmp 1) rfl w.heap.size rfl 104 (partC p (.slice A2 l.length c2)) (0, 0) _ HP1.out.out Tryz.underlying104 rfl (by rw [partC_size h8]; exact info_part) ?_
 have hone : (partC p (.slice A2 l.length c2)).all (·.oneCell') = true := partC_one _ _ rfl
 refine wpList_store_rowA rfl 104 (.tmp 2) (.tmp 7) rfl (w.heap.size + 1) (partC p (.slice A2 l.length c2)) rfl rfl 104 zeroPart HB11.out (by rw [partC_size h8]; exact info_part) (by rw [partC_size h8]; rfl) hone ?_
 intro W hgW hbW
 have HBW := Lib.hid hbW
 have HG2 := Lib.hid (HG1.out.then_new hgW (fun x e => by omega))
 have HO2 := Lib.hid (HO1.out.keep hgW (fun b' o' e1 e2 e3 e4 => by omega))
 clear hbW hgW hp1
 go_wp2_with fail
 exact bodyPost_ret (results_cell_row Tryz.results184 _ _ (w.heap.size + 1) 104 _ (0, 0) _ rfl HBW.out Tryz.underlying104 rfl (by rw [partC_size h8]; exact info_part)) rfl ⟨A2, c2, rfl, q1, q2, HO2.out.mono (by omega), HG2.out⟩
end
end Go.Proofs.YtkgnlobabknkcaaGreat
