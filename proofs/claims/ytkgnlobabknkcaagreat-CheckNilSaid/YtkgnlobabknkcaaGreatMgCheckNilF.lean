/- CheckNil, part 6 of 14: contracts of the functions that it reaches, and the laws that they need, merged and shortened (from my texts XTag, XRdL, XStQ, XStM, XStN). -/
import Derived.Test.YtkgnlobabknkcaaGreatMgCheckNilA
import Derived.Test.YtkgnlobabknkcaaGreatMgCheckNilB
import Derived.Test.YtkgnlobabknkcaaGreatMgCheckNilC
import Derived.Test.YtkgnlobabknkcaaGreatMgCheckNilE
namespace Go.Proofs.YtkgnlobabknkcaaGreat
set_option linter.unusedVariables false
set_option linter.unusedSimpArgs false
set_option maxHeartbeats 8000000
section
open Go.RowKit
theorem run_results_cell_tmp {P : Program} {fn : Func} {p q : Tmp} {ty : TypeId} (h : fn.results = #[.cell p ty, .tmp q]) (tmps : Array Value) (w : World) (g : Nat) (t : TypeId) (cs : Array Value) (fr : Nat × Nat) (d : TypeDesc) (v : Value)
  (hp : tmps.getD p undef = .pointer (some ⟨g, 0, none⟩)) (hv : tmps.getD q undef = v) (hg : w.heap[g]? = some (.cells cs t fr))
  (hu : P.underlying ty = some d) (hd : (match d with | .struct _ | .array _ _ => true | _ => false) = true) (hi : (P.info? ty).map (·.size) = some cs.size) :
  (results fn tmps).run P w = .ok (.tuple #[.agg cs, v]) w := by
 have hp' : tmps[p]?.getD undef = .pointer (some ⟨g, 0, none⟩) := by simpa using hp
 have hv' : tmps[q]?.getD undef = v := by simpa using hv
 simp [results, h, hp', hv', asAddr, run_loadVar_row w g t ty cs fr d hg hu hd hi]
def tagA (l : List UInt8) : Array Value := (l.map bv).toArray
theorem tagA_size (l : List UInt8) (h : l.length = 32) : (tagA l).size = 32 := by simp [tagA, h]
theorem tagA_one (l : List UInt8) : (tagA l).all (·.oneCell') = true := secV_one l
def zTag : List UInt8 := List.replicate 32 0
theorem zTag_len : zTag.length = 32 := by simp [zTag]
theorem info_tag : (Tryz.prog.info? 28).map (·.size) = some 32 := by kernel_rfl
theorem wpList_load_tag {w : World} {ops : Array Oper} {rest : List Oper} {op : Oper} {a : Act} {Q : Exit → Act → World → Prop} (hgd : op.guard = none) (x : Operand) (ho : op.op = .load 28 x)
  (b o : Nat) (hx : a.eval x = .pointer (some ⟨b, o, none⟩)) (l : List UInt8) (hc : w.rangeAt b o (l.map bv)) (hl : l.length = 32)
  (h : wpList Tryz.prog ops Q rest (a.put op.dst (.agg (tagA l))) w) : wpList Tryz.prog ops Q (op :: rest) a w :=
 wpList_load_mid hgd 28 x ho b o hx (l.map bv) _ hc Tryz.underlying28 rfl (by rw [List.length_map, hl]; exact info_tag) h
theorem range_of_rd {w : World} {b o : Nat} {l : List UInt8} (h : Rd w (some ⟨b, o, none⟩) l) : w.rangeAt b o (l.map bv) := by
 intro j v hv
 rw [List.getElem?_map] at hv
 obtain ⟨x, hx, rfl⟩ := Option.map_eq_some_iff.1 hv
 obtain ⟨b', o', e, hc⟩ := h j x hx
 injection e with e
 injection e with e1 e2
 subst e1 e2
 exact hc
theorem range_of_tag {w : World} {g : Nat} {t : TypeId} {fr : Nat × Nat} {l : List UInt8} (h : w.heap[g]? = some (.cells (tagA l) t fr)) : w.rangeAt g 0 (l.map bv) := by
 intro j v hv
 rw [cell_of_row _ _ _ _ _ _ h, Nat.zero_add]
 simpa [tagA] using hv
set_option maxRecDepth 100000 in
theorem Tag1_ok (A : Option Addr) (l : List UInt8) (w : World) (hr : Rd w A l) (hl : l.length = 32) :
  Calls Tryz.prog 174 #[.slice A 32 32] w fun e w' => e = .returned (.tuple #[.agg (tagA l), .bool true]) ∧ Chg Non w w' := by
 obtain ⟨b, o, rfl, hbl, _⟩ := hr.at_ (by omega)
 have HR := Lib.hid (range_of_rd hr)
 have HL := Lib.hid hl
 clear hr hl
 go_enter Tryz.func174, Tryz.ntmps174
 obtain ⟨Z, hZ⟩ : ∃ Z, tagA zTag = Z := ⟨_, rfl⟩
 go_wp2_with (first
   | (refine sel (some 5) (.sliceToArrayPointer 28 (.tmp 4)) ?_; refine wpList_plain rfl (fun K hK => ?_); go_simp; refine hK _ _ ?_)
   | (refine sel (some 6) (.load 28 (.tmp 5)) ?_; refine wpList_load_tag rfl (.tmp 5) rfl b o rfl l (fun j v hv => ((Chg.refl Non w).alloc _).cell_some (HR.out j v hv) (fun e => e)) HL.out ?_)
   | (refine sel none (.store 28 (.tmp 2) (.tmp 6)) ?_
      refine wpList_store_rowA rfl 28 (.tmp 2) (.tmp 6) rfl w.heap.size (tagA l) rfl rfl 28 _ (heap_alloc_new _ _) (by rw [tagA_size _ HL.out]; exact info_tag) (by rw [tagA_size _ HL.out]; rfl) (tagA_one _) ?_
      intro W hgW hbW
      have HB := Lib.hid hbW
      have hg1 : Chg Non w W := ((Chg.refl Non w).alloc _).then_new hgW (fun x e => by rw [e]; exact Nat.le_refl _)
      clear hbW hgW))
 exact bodyPost_ret (run_results_cell_tmp Tryz.results174 _ _ w.heap.size 28 (tagA l) (0, 0) _ (.bool true) rfl rfl HB.out Tryz.underlying28 rfl (by rw [tagA_size _ HL.out]; exact info_tag)) rfl ⟨rfl, hg1⟩
def rdTag (l : List UInt8) (er : Int) : List UInt8 × List UInt8 × Int :=
 if er = 0 then (if 32 ≤ l.length then (l.take 32, l.drop 32, 0) else (zTag, [], 50)) else (zTag, l, er)
theorem rdTag_len (l : List UInt8) (er : Int) : (rdTag l er).1.length = 32 := by
 unfold rdTag
 split
 ·split
  ·rw [List.length_take]; omega
  ·exact zTag_len
 ·exact zTag_len
def IsRB (S : Nat) (w : World) (p : Nat) (l : List UInt8) (er : Int) : Prop :=
 ∃ A c, w.heap[p]? = some (.cells #[.slice A l.length c, .bool true, .int .i64 er] 226 (0, 0)) ∧ Rd w A l ∧ l.length ≤ c ∧ c ≤ maxLen ∧ ∀ b o, A = some ⟨b, o, none⟩ → l ≠ [] → b < S
theorem IsR.below {w : World} {p : Nat} {l : List UInt8} {er : Int} (h : IsR w p l er) : IsRB w.heap.size w p l er := by
 obtain ⟨A, c, hb, hr, h3, h4⟩ := h
 refine ⟨A, c, hb, hr, h3, h4, ?_⟩
 rintro b o rfl hne
 obtain ⟨b', o', e, hlt, _⟩ := hr.at_ (List.length_pos_iff.2 hne)
 injection e with e
 injection e with e1 _
 subst e1
 exact hlt
theorem IsRB.keep {T : Nat → Prop} {S p : Nat} {w w' : World} {l : List UInt8} {er : Int} (h : IsRB S w p l er) (hg : Chg T w w') (hp : ¬ T p) (hT : ∀ b, b < S → ¬ T b) : IsRB S w' p l er := by
 obtain ⟨A, c, hb, hr, h3, h4, h5⟩ := h
 exact ⟨A, c, (hg.block p (Array.getElem?_eq_some_iff.1 hb).1 hp).trans hb, hr.keep hg (fun b o e hne => hT b (h5 b o e hne)), h3, h4, h5⟩
theorem IsRB.lt {S p : Nat} {w : World} {l : List UInt8} {er : Int} (h : IsRB S w p l er) : p < w.heap.size := by
 obtain ⟨A', c', hb, _⟩ := h; exact (Array.getElem?_eq_some_iff.1 hb).1
theorem IsRB.isR {S p : Nat} {w : World} {l : List UInt8} {er : Int} (h : IsRB S w p l er) : IsR w p l er := by
 obtain ⟨A, c, hb, hr, h3, h4, h5⟩ := h
 exact ⟨A, c, hb, hr, h3, h4⟩
set_option maxRecDepth 100000 in
theorem take_okB (S p n : Nat) (l : List UInt8) (w : World) (hR : IsRB S w p l 0) (hn : n ≤ l.length) :
  Calls Tryz.prog 197 #[.pointer (some ⟨p, 0, none⟩), .int .i64 n] w fun e w' => ∃ A, e = .returned (.tuple #[.slice A n n, .bool true]) ∧ Rd w' A (l.take n) ∧ IsRB S w' p (l.drop n) 0 ∧ Chg (At p) w w' := by
 have hw := rwhole_any p l 0 w hR.isR
 obtain ⟨A, c, hb, hr, hc, hm, hS⟩ := hR
 have h0 : w.cell? ⟨p, 0, none⟩ = some (.slice A l.length c) := by rw [cell_of_row _ _ _ _ _ _ hb]; rfl
 have f0 : w.frozen? ⟨p, 0, none⟩ = false := frozen_of_row _ _ _ _ _ hb
 have hne := rd_ne hb (fun x => by simp) hr
 have HB := Lib.hid hb
 have HW := Lib.hid hw
 clear hb hw
 unfold maxLen at hm
 have hd : decide ((n : Int) > l.length) = false := by simp; omega
 have hcl : ∀ (X : Option Addr) (d : Nat), (l.drop n ≠ [] → X = A.map (·.add n)) → l.length - n ≤ d → d ≤ maxLen →
   IsRB S (w.setCell ⟨p, 0, none⟩ (.slice X (l.length - n) d)) p (l.drop n) 0 ∧ Chg (At p) w (w.setCell ⟨p, 0, none⟩ (.slice X (l.length - n) d)) := by
  intro X d hX h1 h2
  obtain ⟨_, hg⟩ := take_close HB.out hr hn hc (by unfold maxLen; omega) X hX d h1 h2
  have hl : p < w.heap.size := (Array.getElem?_eq_some_iff.1 HB.out).1
  have hrd : Rd w X (l.drop n) := by
   by_cases h : l.drop n = []
   ·rw [h]; exact Rd.nil _ _
   ·rw [hX h]
    have h0 : 0 < l.length := by
     rcases Nat.eq_zero_or_pos l.length with h0 | h0
     ·exact absurd (List.drop_of_length_le (by omega)) h
     ·exact h0
    obtain ⟨b, o, rfl, _, _⟩ := hr.at_ h0
    simp only [Option.map_some, add_plain]
    exact hr.drop n
  have hXb : ∀ b o, X = some ⟨b, o, none⟩ → l.drop n ≠ [] → ∃ o', A = some ⟨b, o', none⟩ ∧ l ≠ [] := by
   intro b o e h
   rw [hX h] at e
   obtain ⟨a, ha, e'⟩ := Option.map_eq_some_iff.1 e
   have hl0 : l ≠ [] := by rintro rfl; simp at h
   obtain ⟨b', o', rfl, _, _⟩ := hr.at_ (List.length_pos_iff.2 hl0)
   injection ha with ha
   subst ha
   rw [add_plain] at e'
   injection e' with e1 e2
   subst e1
   exact ⟨_, rfl, hl0⟩
  refine ⟨⟨X, d, ?_, hrd.keep hg ?_, by rw [List.length_drop]; exact h1, h2, ?_⟩, hg⟩
  ·rw [heap_setCell_same _ _ _ _ _ _ HB.out, List.length_drop]; rfl
  ·intro b o e h
   obtain ⟨o', e', h'⟩ := hXb b o e h
   exact hne b o' e' h'
  ·intro b o e h
   obtain ⟨o', e', h'⟩ := hXb b o e h
   exact hS b o' e' h'
 have HCl := Lib.hid hcl
 clear hcl hS
 go_enter Tryz.func197, Tryz.ntmps197
 go_wp2_with fail
 refine HW.out.mono ?_
 rintro e w' ⟨rfl, rfl⟩
 by_cases hnl : n < l.length
 ·have hcn : ¬ c = n := by omega
  go_wp2
  go_ret2
  have hcl := HCl.out (A.map (·.add n)) (c - n) (fun _ => rfl) (by omega) (by unfold maxLen; omega)
  exact ⟨A, rfl, (hr.take n).keep hcl.2 (fun b o e h => hne b o e (take_ne h)), hcl⟩
 ·go_wp2
  all_goals
   go_ret2
   refine ⟨A, rfl, (hr.take n).keep ?_ (fun b o e h => hne b o e (take_ne h)), HCl.out _ _ (fun h => absurd (List.drop_of_length_le (by omega)) h) (by omega) (by unfold maxLen; omega)⟩
   exact (Chg.refl (At p) _).setCell (p := ⟨p, 0, none⟩) (.inl rfl) _
theorem new_block {w W : World} {o : Obj} (hg : Chg Non (w.alloc o) W) : W.heap[w.heap.size]? = some o :=
 (hg.block _ (by simp) (fun e => e)).trans (heap_alloc_new _ _)
set_option maxRecDepth 100000 in
theorem fieldTag_ok (S p : Nat) (l : List UInt8) (w : World) (hR : IsRB S w p l 0) (hSw : S ≤ w.heap.size) (hn : 32 ≤ l.length) :
  Calls Tryz.prog 173 #[.pointer (some ⟨p, 0, none⟩), .int .i64 32, .func (.func 174) #[] #[]] w fun e w' => e = .returned (.agg (tagA (l.take 32))) ∧ IsRB S w' p (l.drop 32) 0 ∧ Chg (At p) w w' := by
 have hg0 : ∀ o o' : Obj, Chg Non w ((w.alloc o).alloc o') := fun o o' => ((Chg.refl _ _).alloc _).alloc _
 have HT := Lib.hid (fun o o' => take_okB S p 32 l ((w.alloc o).alloc o') (hR.keep (hg0 o o') (fun e => e) (fun _ _ e => e)) hn)
 have hlp : p < w.heap.size := hR.lt
 have hl : (l.take 32).length = 32 := by rw [List.length_take]; omega
 obtain ⟨m, hm⟩ : ∃ m, l.take 32 = m := ⟨_, rfl⟩
 rw [hm] at HT hl ⊢
 have HL := Lib.hid hl
 clear hm hl hR hg0
 go_enter Tryz.func173, Tryz.ntmps173
 go_wp2_with fail
 refine (HT.out _ _).mono ?_
 rintro e w1 ⟨A, rfl, hr, hR1, hg⟩
 go_wp2_with fail
 refine (Tag1_ok A m w1 hr HL.out).mono ?_
 rintro e w2 ⟨rfl, hg2⟩
 have hgA : Chg (At p) w w2 := (((((Chg.refl Non w).alloc _).alloc _).non_then hg).then_non hg2)
 have hb0 : w2.heap[w.heap.size]? = some (.cells (tagA zTag) 28 (0, 0)) := by
  rw [hg2.block _ (by have := hg.size; simp at this; omega) (fun e => e), hg.block _ (by simp; omega) (by unfold At; omega), Below.heap_alloc _ _ _ (by simp), heap_alloc_new]
  rfl
 have HB0 := Lib.hid hb0
 have hz2 : w.heap.size < w2.heap.size := (Array.getElem?_eq_some_iff.1 hb0).1
 clear hb0 hr
 go_wp2_with (first
   | (refine sel none (.store 28 (.tmp 10) (.tmp 24)) ?_
      refine wpList_store_rowA rfl 28 (.tmp 10) (.tmp 24) rfl w2.heap.size (tagA m) rfl rfl 28 _ (heap_alloc_new _ _) (by rw [tagA_size _ HL.out]; exact info_tag) (by rw [tagA_size _ HL.out]; rfl) (tagA_one _) ?_
      intro W hgW hbW
      have HB := Lib.hid hbW
      have HGW := Lib.hid hgW
      have hb1 : W.heap[w.heap.size]? = some (.cells (tagA zTag) 28 (0, 0)) := by
        rw [hgW.block _ (by simp; omega) (by omega), Below.heap_alloc _ _ _ hz2]
        exact HB0.out
      have HB1 := Lib.hid hb1
      clear hbW hgW hb1)
   | (refine sel none (.store 28 (.tmp 6) (.tmp 31)) ?_
      refine wpList_store_rowA rfl 28 (.tmp 6) (.tmp 31) rfl w.heap.size (tagA m) rfl rfl 28 _ HB1.out (by rw [tagA_size _ HL.out]; exact info_tag) (by rw [tagA_size _ HL.out]; rfl) (tagA_one _) ?_
      intro W2 hgW2 hbW2
      have HB2 := Lib.hid hbW2
      have HGW2 := Lib.hid hgW2
      clear hbW2 hgW2)
   | (refine sel (some 31) (.load 28 (.tmp 10)) ?_; refine wpList_load_tag rfl (.tmp 10) rfl w2.heap.size 0 rfl m (range_of_tag HB.out) HL.out ?_))
 have hgB : Chg (At p) w W2 := (((hgA.alloc _).then_new HGW.out (fun x e => by omega))).then_new HGW2.out (fun x e => by omega)
 have hR2 := fun o => (hR1.keep hg2 (fun e => e) (fun _ _ e => e)).keep ((Chg.refl Non w2).alloc o) (fun e => e) (fun _ _ e => e)
 have hR3 := (hR2 _).keep HGW.out (by omega) (fun b hb e => by omega)
 have hR4 := hR3.keep HGW2.out (by omega) (fun b hb e => by omega)
 exact bodyPost_ret (results_cell_row Tryz.results173 _ _ w.heap.size 28 _ (0, 0) _ rfl HB2.out Tryz.underlying28 rfl (by rw [tagA_size _ HL.out]; exact info_tag)) rfl ⟨rfl, hR4, hgB⟩
theorem field_zero {w w2 : World} {o : Obj} {p : Nat} (hlp : p < w.heap.size) (hg : Chg (At p) ((w.alloc (.cells (tagA zTag) 28)).alloc o) w2) :
  w2.heap[w.heap.size]? = some (.cells (tagA zTag) 28 (0, 0)) := by
 rw [hg.block _ (by simp; omega) (by unfold At; omega), Below.heap_alloc _ _ _ (by simp), heap_alloc_new]
theorem field_zero1 {w w2 : World} {o : Obj} {p : Nat} (hlp : p < w.heap.size) (hg : Chg (At p) ((w.alloc o).alloc (.cells (tagA zTag) 28)) w2) :
  w2.heap[w.heap.size + 1]? = some (.cells (tagA zTag) 28 (0, 0)) := by
 rw [hg.block _ (by simp) (by unfold At; omega), heap_alloc2_new]
set_option maxRecDepth 100000 in
theorem fieldTag_no (S p : Nat) (l l' : List UInt8) (er er' : Int) (w : World) (hR : IsRB S w p l er) (hSw : S ≤ w.heap.size)
  (ht : ∀ W, IsRB S W p l er → Calls Tryz.prog 197 #[.pointer (some ⟨p, 0, none⟩), .int .i64 32] W fun e w' => e = .returned (.tuple #[.slice none 0 0, .bool false]) ∧ IsRB S w' p l' er' ∧ Chg (At p) W w') :
  Calls Tryz.prog 173 #[.pointer (some ⟨p, 0, none⟩), .int .i64 32, .func (.func 174) #[] #[]] w fun e w' => e = .returned (.agg (tagA zTag)) ∧ IsRB S w' p l' er' ∧ Chg (At p) w w' := by
 have hg0 : ∀ o o' : Obj, Chg Non w ((w.alloc o).alloc o') := fun o o' => ((Chg.refl _ _).alloc _).alloc _
 have hlp : p < w.heap.size := hR.lt
 have HT := Lib.hid (fun o o' => ht ((w.alloc o).alloc o') (hR.keep (hg0 o o') (fun e => e) (fun _ _ e => e)))
 clear hR hg0 ht
 go_enter Tryz.func173, Tryz.ntmps173
 go_wp2_with fail
 refine (HT.out _ _).mono ?_
 rintro e w2 ⟨rfl, hR1, hg⟩
 have HB0 := Lib.hid (field_zero hlp hg)
 have HB1 := Lib.hid (field_zero1 hlp hg)
 have hgA : Chg (At p) w w2 := ((((Chg.refl Non w).alloc _).alloc _).non_then hg)
 go_wp2_with (first
   | (refine sel (some 19) (.load 28 (.tmp 7)) ?_; refine wpList_load_tag rfl (.tmp 7) rfl (w.heap.size + 1) 0 rfl zTag (range_of_tag HB1.out) zTag_len ?_)
   | (refine sel none (.store 28 (.tmp 6) (.tmp 19)) ?_
      refine wpList_store_rowA rfl 28 (.tmp 6) (.tmp 19) rfl w.heap.size (tagA zTag) rfl rfl 28 _ HB0.out (by rw [tagA_size _ zTag_len]; exact info_tag) rfl (tagA_one _) ?_
      intro W2 hgW2 hbW2
      have HB2 := Lib.hid hbW2
      have HGW2 := Lib.hid hgW2
      clear hbW2 hgW2))
 have hgB : Chg (At p) w W2 := hgA.then_new HGW2.out (fun x e => by omega)
 have hR4 := hR1.keep HGW2.out (by omega) (fun b hb e => by omega)
 exact bodyPost_ret (results_cell_row Tryz.results173 _ _ w.heap.size 28 _ (0, 0) _ rfl HB2.out Tryz.underlying28 rfl (by rw [tagA_size _ zTag_len]; exact info_tag)) rfl ⟨rfl, hR4, hgB⟩
theorem fieldTag_any (S p : Nat) (l : List UInt8) (er : Int) (w : World) (hR : IsRB S w p l er) (hSw : S ≤ w.heap.size) :
  Calls Tryz.prog 173 #[.pointer (some ⟨p, 0, none⟩), .int .i64 32, .func (.func 174) #[] #[]] w fun e w' => e = .returned (.agg (tagA (rdTag l er).1)) ∧ IsRB S w' p (rdTag l er).2.1 (rdTag l er).2.2 ∧ Chg (At p) w w' := by
 unfold rdTag
 by_cases he : er = 0
 ·subst he
  by_cases hl : 32 ≤ l.length
  ·simp only [hl, if_true]
   exact fieldTag_ok S p l w hR hSw hl
  ·simp only [hl, if_true, if_false]
   refine fieldTag_no S p l [] 0 50 w hR hSw (fun W hR' => (take_short p 32 l W hR'.isR (by omega)).mono ?_)
   rintro e w' ⟨rfl, ⟨A, c, h1, h2, h3, h4⟩, hg'⟩
   exact ⟨rfl, ⟨A, c, h1, h2, h3, h4, fun _ _ _ h => absurd rfl h⟩, hg'⟩
 ·simp only [he, if_false]
  refine fieldTag_no S p l l er er w hR hSw (fun W hR' => (take_broken p 32 l er W hR'.isR he).mono ?_)
  rintro e w' ⟨rfl, rfl⟩
  exact ⟨rfl, hR', Chg.refl _ _⟩
end
section

end
section
open Go.RowKit
def parseS (l : List UInt8) : Option Sta :=
 let r := Rs.sta ⟨l, 0, false⟩
 if r.2.er = 0 ∧ r.2.l = [] ∧ r.2.wide = false ∧ mayS r.1 = true then some r.1 else none
theorem wInt_len (n : Int) : (wInt n).length = 8 := be_length _ _
structure StBd (s : Sta) : Prop where
 fr : I64 s.frames
 np : s.parts.length ≤ 6
 nq : s.queues.length ≤ 8
 ps : ∀ p ∈ s.parts, p.Bd ∧ p.mem.length ≤ 512
 qs : ∀ q ∈ s.queues, q.ch.Bd ∧ q.msgs.length ≤ 4 ∧ ∀ m ∈ q.msgs, m.length ≤ 16
theorem flat_le {α : Type} {w : α → List UInt8} {k : Nat} (l : List α) (h : ∀ a ∈ l, (w a).length ≤ k) : (l.flatMap w).length ≤ l.length * k := by
 induction l with
 | nil => simp
 | cons a l ih =>
  have h1 := h a (List.mem_cons_self ..)
  have h2 := ih (fun b hb => h b (List.mem_cons_of_mem _ hb))
  rw [List.flatMap_cons, List.length_append, List.length_cons, Nat.add_mul]
  omega
theorem wBy_len (m : List UInt8) : (wBy m).length = 4 + m.length := by unfold wBy; rw [List.length_append, be_length]
theorem wWords_len {r : List Nat} (h8 : r.length = 8) : (wWords r).length = 64 := by
  unfold wWords
  have : ∀ l : List Nat, (l.flatMap fun x : Nat => wInt (x : Int)).length = l.length * 8 := by
   intro l
   induction l with
   | nil => rfl
   | cons a l ih => rw [List.flatMap_cons, List.length_append, wInt_len, ih, List.length_cons]; omega
  rw [this, h8]
theorem wPt_len {p : Pt} (h8 : p.r.length = 8) : (wPt p).length = 94 + p.mem.length := by
 have hw := wWords_len h8
 unfold wPt
 simp only [List.length_append, List.length_cons, wInt_len, wBy_len, hw]
 omega
theorem wQu_len {q : Qu} (h4 : q.msgs.length ≤ 4) (hm : ∀ m ∈ q.msgs, m.length ≤ 16) : (wQu q).length ≤ 128 := by
 have h := flat_le (w := wBy) (k := 20) q.msgs (fun a ha => by rw [wBy_len]; have := hm a ha; omega)
 unfold wQu wMs
 simp only [List.length_append, wInt_len]
 omega
theorem formS_len {s : Sta} (h : StBd s) : (formS s).length ≤ 4684 ∧ 1 ≤ (formS s).length := by
 have h1 := flat_le (w := wPt) (k := 606) s.parts (fun a ha => by rw [wPt_len (h.ps a ha).1.r8]; have := (h.ps a ha).2; omega)
 have h2 := flat_le (w := wQu) (k := 128) s.queues (fun a ha => wQu_len (h.qs a ha).2.1 (h.qs a ha).2.2)
 have h3 := h.np
 have h4 := h.nq
 unfold formS
 simp only [List.length_append, wInt_len]
 omega
theorem mayL_all {α : Type} {ok : α → Bool} {id : α → Int} {l : List α} (h : mayL ok id l = true) : ∀ a ∈ l, ok a = true := by
 intro a ha
 obtain ⟨k, hk⟩ := List.getElem?_of_mem ha
 rw [mayL, List.all_eq_true] at h
 have := h k (List.mem_range.2 (List.getElem?_eq_some_iff.1 hk).1)
 simp only [stepMay, hk, Bool.and_eq_true] at this
 exact this.1
theorem chPart_le {n : Int} (h : chPart n = true) : 1 ≤ n ∧ n ≤ 6 := by
 simp only [chPart, Bool.and_eq_true, decide_eq_true_eq] at h
 omega
theorem chMay_bd {a : Ch} (h : a.may = true) : a.Bd ∧ a.cap ≤ 4 ∧ a.size ≤ 16 := by
 simp only [Ch.may, chMay, Bool.and_eq_true, decide_eq_true_eq] at h
 obtain ⟨⟨⟨⟨⟨⟨⟨⟨h1, h2⟩, h3⟩, h4⟩, _⟩, h5⟩, h6⟩, h7⟩, h8⟩ := h
 have h3' := chPart_le h3
 have h4' := chPart_le h4
 refine ⟨⟨⟨?_, ?_⟩, ⟨?_, ?_⟩, ⟨?_, ?_⟩, ⟨?_, ?_⟩, ⟨?_, ?_⟩⟩, ?_, ?_⟩ <;> omega
theorem mayQ_bd {q : Qu} (h : mayQ q = true) : q.ch.Bd ∧ q.msgs.length ≤ 4 ∧ ∀ m ∈ q.msgs, m.length ≤ 16 := by
 simp only [mayQ, Bool.and_eq_true, decide_eq_true_eq, Bool.not_eq_true', List.any_eq_false] at h
 obtain ⟨⟨h1, h2⟩, h3⟩ := h
 obtain ⟨b, h4, h5⟩ := chMay_bd h1
 refine ⟨b, by omega, fun m hm => ?_⟩
 have := h3 m hm
 omega
theorem partOk_mem {p : Pt} (h : partOk p = true) : p.mem.length ≤ 512 := by
 simp only [partOk, Bool.and_eq_true, decide_eq_true_eq] at h
 obtain ⟨⟨⟨_, h1⟩, h2⟩, _⟩ := h
 have := regMay_iff.1 h1
 omega
theorem stBd_may {s : Sta} (hm : mayS s = true) (hp : ∀ p ∈ s.parts, p.Bd) : StBd s := by
 simp only [mayS, Bool.and_eq_true, decide_eq_true_eq] at hm
 obtain ⟨⟨⟨⟨⟨h1, h2⟩, h3⟩, h4⟩, h5⟩, h6⟩ := hm
 exact ⟨⟨by omega, by omega⟩, h3, h4, fun p h => ⟨hp p h, partOk_mem (mayL_all h5 p h)⟩, fun q h => mayQ_bd (mayL_all h6 q h)⟩
end
section
open Go.RowKit
theorem IsWN.less {N M : Nat → Prop} {p : Nat} {l : List UInt8} {er : Int} {w : World} (h : IsWN M w p l er) (hN : ∀ k, N k → M k) : IsWN N w p l er := by
 obtain ⟨h1, h2, v, h3, h4, h5⟩ := h
 exact ⟨fun k hk => h1 k (hN k hk), fun hk => h2 (hN _ hk), v, h3, h4, fun g e hk => h5 g e (hN _ hk)⟩
theorem Nt.less {N M : Nat → Prop} {w w' : World} (h : Chg (Nt M) w w') (hN : ∀ k, N k → M k) : Chg (Nt N) w w' := h.mono (fun k hk hn => hk (hN k hn))
theorem putsMsg (I N : Nat → Prop) (l : List (List UInt8)) (p bx : Nat) : Puts (msgV I) oneV l wBy N p bx 76 := by
 rintro W a vs f ha ⟨m, rfl, ⟨A, c, rfl, hc, hm, hrd, _⟩, hl⟩ hW hbx hroom
 have HB := Lib.hid (WBytes_N N p c f a A W hW hrd (by rw [wBy_len] at hroom; omega))
 clear hW hrd hroom
 show Calls Tryz.prog 76 #[.slice A a.length c, .pointer (some ⟨bx, 0, none⟩)] W _
 go_enter Tryz.func76, Tryz.ntmps76
 go_wp2_with fail
 refine HB.out.mono ?_
 rintro e u ⟨rfl, h⟩
 go_wp2_with fail
 go_end0
 exact ⟨rfl, h⟩
def Nb (N : Nat → Prop) (b : Nat) : Nat → Prop := fun k => N k ∨ k = b
theorem IsWN.box {N : Nat → Prop} {p : Nat} {l : List UInt8} {w : World} (h : IsWN N w p l 0) (o : Obj) : IsWN (Nb N w.heap.size) (w.alloc o) p l 0 :=
 h.more ((Chg.refl Non w).alloc o) (fun k hk => hk.imp id (fun e => by subst e; simp))
set_option maxRecDepth 100000 in
theorem idx8 {RL : List Value} (h : RL.length = 8) {k : Nat} {v : Value} (hv : RL[k]? = some v) (W : World) : (Instr.index 102 (.agg RL.toArray) (.int .i64 (k : Int))).run Tryz.prog W = .ok v W := by
 have x0 : ∀ (v0 v1 v2 v3 v4 v5 v6 v7 : Value) (W : World), (Instr.index 102 (.agg #[v0, v1, v2, v3, v4, v5, v6, v7]) (.int .i64 0)).run Tryz.prog W = .ok v0 W := fun _ _ _ _ _ _ _ _ _ => by kernel_rfl
 have x1 : ∀ (v0 v1 v2 v3 v4 v5 v6 v7 : Value) (W : World), (Instr.index 102 (.agg #[v0, v1, v2, v3, v4, v5, v6, v7]) (.int .i64 1)).run Tryz.prog W = .ok v1 W := fun _ _ _ _ _ _ _ _ _ => by kernel_rfl
 have x2 : ∀ (v0 v1 v2 v3 v4 v5 v6 v7 : Value) (W : World), (Instr.index 102 (.agg #[v0, v1, v2, v3, v4, v5, v6, v7]) (.int .i64 2)).run Tryz.prog W = .ok v2 W := fun _ _ _ _ _ _ _ _ _ => by kernel_rfl
 have x3 : ∀ (v0 v1 v2 v3 v4 v5 v6 v7 : Value) (W : World), (Instr.index 102 (.agg #[v0, v1, v2, v3, v4, v5, v6, v7]) (.int .i64 3)).run Tryz.prog W = .ok v3 W := fun _ _ _ _ _ _ _ _ _ => by kernel_rfl
 have x4 : ∀ (v0 v1 v2 v3 v4 v5 v6 v7 : Value) (W : World), (Instr.index 102 (.agg #[v0, v1, v2, v3, v4, v5, v6, v7]) (.int .i64 4)).run Tryz.prog W = .ok v4 W := fun _ _ _ _ _ _ _ _ _ => by kernel_rfl
 have x5 : ∀ (v0 v1 v2 v3 v4 v5 v6 v7 : Value) (W : World), (Instr.index 102 (.agg #[v0, v1, v2, v3, v4, v5, v6, v7]) (.int .i64 5)).run Tryz.prog W = .ok v5 W := fun _ _ _ _ _ _ _ _ _ => by kernel_rfl
 have x6 : ∀ (v0 v1 v2 v3 v4 v5 v6 v7 : Value) (W : World), (Instr.index 102 (.agg #[v0, v1, v2, v3, v4, v5, v6, v7]) (.int .i64 6)).run Tryz.prog W = .ok v6 W := fun _ _ _ _ _ _ _ _ _ => by kernel_rfl
 have x7 : ∀ (v0 v1 v2 v3 v4 v5 v6 v7 : Value) (W : World), (Instr.index 102 (.agg #[v0, v1, v2, v3, v4, v5, v6, v7]) (.int .i64 7)).run Tryz.prog W = .ok v7 W := fun _ _ _ _ _ _ _ _ _ => by kernel_rfl
 match RL, h with
 | [v0, v1, v2, v3, v4, v5, v6, v7], _ =>
  have hk : k < 8 := (List.getElem?_eq_some_iff.1 hv).1
  have hc : k = 0 ∨ k = 1 ∨ k = 2 ∨ k = 3 ∨ k = 4 ∨ k = 5 ∨ k = 6 ∨ k = 7 := by omega
  rcases hc with rfl | rfl | rfl | rfl | rfl | rfl | rfl | rfl
  ·simp only [List.getElem?_cons_zero, List.getElem?_cons_succ, Option.some.injEq] at hv; subst hv; exact x0 v0 v1 v2 v3 v4 v5 v6 v7 W
  ·simp only [List.getElem?_cons_zero, List.getElem?_cons_succ, Option.some.injEq] at hv; subst hv; exact x1 v0 v1 v2 v3 v4 v5 v6 v7 W
  ·simp only [List.getElem?_cons_zero, List.getElem?_cons_succ, Option.some.injEq] at hv; subst hv; exact x2 v0 v1 v2 v3 v4 v5 v6 v7 W
  ·simp only [List.getElem?_cons_zero, List.getElem?_cons_succ, Option.some.injEq] at hv; subst hv; exact x3 v0 v1 v2 v3 v4 v5 v6 v7 W
  ·simp only [List.getElem?_cons_zero, List.getElem?_cons_succ, Option.some.injEq] at hv; subst hv; exact x4 v0 v1 v2 v3 v4 v5 v6 v7 W
  ·simp only [List.getElem?_cons_zero, List.getElem?_cons_succ, Option.some.injEq] at hv; subst hv; exact x5 v0 v1 v2 v3 v4 v5 v6 v7 W
  ·simp only [List.getElem?_cons_zero, List.getElem?_cons_succ, Option.some.injEq] at hv; subst hv; exact x6 v0 v1 v2 v3 v4 v5 v6 v7 W
  ·simp only [List.getElem?_cons_zero, List.getElem?_cons_succ, Option.some.injEq] at hv; subst hv; exact x7 v0 v1 v2 v3 v4 v5 v6 v7 W
set_option maxRecDepth 100000 in
theorem putsPart (I N : Nat → Prop) (hI : ∀ b, I b → N b) (l : List Pt) (p bx : Nat) (hbN : N bx) : Puts (ptV I) aggV l wPt N p bx 69 := by
 rintro W a vs f ha ⟨m, rfl, ⟨A, c, rfl, hc, hm, hrd, hIA⟩, hbd, hl⟩ hW hbx hroom
 have hroom2 : f.length + 94 + a.mem.length ≤ 65536 := by rw [wPt_len hbd.r8] at hroom; omega
 have HBd := Lib.hid hbd
 have HFm : Hid (∀ g : List UInt8, g = f ++ (be (u64 a.id) 8) ++ (be (u64 a.size) 8) ++ [flagB a.keep] → g ++ (a.r.flatMap fun n : Nat => be (u64 (n : Int)) 8) ++ (be (u64 (a.pc : Int)) 8) ++ [UInt8.ofNat a.st] ++ (be a.mem.length 4 ++ a.mem) = f ++ wPt a) := Lib.hid (fun g h => by
   rw [h]; unfold wPt wWords wBy; simp only [wInt, List.append_assoc, List.cons_append, List.nil_append])
 show Calls Tryz.prog 69 #[.agg (partC a (.slice A a.mem.length c)), .pointer (some ⟨bx, 0, none⟩)] W _
 obtain ⟨C, hC⟩ : ∃ C, partC a (.slice A a.mem.length c) = C := ⟨_, rfl⟩
 have hsz : C.size = 14 := by rw [← hC]; exact partC_size hbd.r8 _
 have HC := Lib.hid hC
 have hX0 := Lib.hid (hW.box (.cells C 104))
 have hP0 : Hid (PartB (W.alloc (.cells C 104)) W.heap.size a (.slice A a.mem.length c)) := Lib.hid ⟨by unfold PartAt; rw [hC]; exact blk_new _ _, hbd.r8⟩
 have HRd : Hid (∀ W', Chg (Nt (Nb N W.heap.size)) (W.alloc (.cells C 104)) W' → Rd W' A a.mem) := Lib.hid (fun W' hg =>
   (hrd.non ((Chg.refl Non W).alloc (.cells C 104))).keep hg (fun b o e hne h => h (.inl (hI _ (hIA b o e hne)))))
 have q0 := ((Chg.refl Non W).alloc (.cells C 104)).cell_some hbx (fun e => e)
 have hgN : Hid (Chg (Nt N) W (W.alloc (.cells C 104))) := Lib.hid ((Chg.refl _ W).alloc _)
 rw [hC]
 clear hC hW hrd hbx hIA hroom
 go_enter Tryz.func69, Tryz.ntmps69
 go_wp2_with fail
 obtain ⟨W0, hW0⟩ : ∃ W0, W.alloc (.cells C 104) = W0 := ⟨_, rfl⟩
 obtain ⟨b2, hb2⟩ : ∃ b2, W.heap.size = b2 := ⟨_, rfl⟩
 rw [hW0] at hX0 hP0 HRd q0 hgN ⊢
 rw [hb2] at hX0 hP0 HRd ⊢
 clear hW0 hb2
 have HS : Hid (Chg (Nt (Nb N b2)) W0 W0.drew) := Lib.hid ((Chg.refl _ _).drew)
 have HX : Hid (IsWN (Nb N b2) W0.drew p f 0) := Lib.hid (isWN_chg hX0.out ((Chg.refl Non _).drew))
 obtain ⟨p0, p1, p2, p11, p12, p13⟩ := hP0.out.cells
 refine wp_region_held_drew (S := Chg (Nt (Nb N b2)) W0) (by kernel_rfl) HS.out (fun hHeld => ?_)
 clear hHeld
 refine hp 0 5 (.pointer (some ⟨p, 0, none⟩)) rfl HS.out ?_ (he := (fun W hW => by have hc := hW.cell_some q0 (fun h => h (.inl hbN)); go_simp))
 refine hp 1 6 (.pointer (some ⟨b2, 0, none⟩)) rfl HS.out ?_
 refine hp 2 7 (.int .i64 a.id) rfl HS.out ?_ (he := (fun W hW => by have hc := hW.cell_some p0 (fun h => h (.inr rfl)); go_simp))
 refine hp 4 9 (.pointer (some ⟨b2, 1, none⟩)) rfl HS.out ?_
 refine hp 5 10 (.int .i64 a.size) rfl HS.out ?_ (he := (fun W hW => by have hc := hW.cell_some p1 (fun h => h (.inr rfl)); go_simp))
 refine hp 7 12 (.pointer (some ⟨b2, 2, none⟩)) rfl HS.out ?_
 refine hp 8 13 (.bool a.keep) rfl HS.out ?_ (he := (fun W hW => by have hc := hW.cell_some p2 (fun h => h (.inr rfl)); go_simp))
 refine h_one 3 (by kernel_rfl) rfl (by kernel_rfl) ?_
 intro K hK
 go_simp
 refine (WInt_N (Nb N b2) p f a.id _ HX.out (by omega)).mono ?_
 rintro e u1 ⟨rfl, hwu1, hgu1⟩
 have HX := Lib.hid hwu1
 have HS := Lib.hid (HS.out.trans_same hgu1)
 refine hK.out _ _ HS.out (fun _ => ?_)
 clear hK K hwu1 hgu1
 try simp only [Act.put, sA, sB, sC]
 refine h_one 6 (by kernel_rfl) rfl (by kernel_rfl) ?_
 intro K hK
 go_simp
 refine (WInt_N (Nb N b2) p _ a.size _ HX.out (by rw [List.length_append, be_length]; omega)).mono ?_
 rintro e u2 ⟨rfl, hwu2, hgu2⟩
 have HX := Lib.hid hwu2
 have HS := Lib.hid (HS.out.trans_same hgu2)
 refine hK.out _ _ HS.out (fun _ => ?_)
 clear hK K hwu2 hgu2
 try simp only [Act.put, sA, sB, sC]
 refine h_one 9 (by kernel_rfl) rfl (by kernel_rfl) ?_
 intro K hK
 go_simp
 refine (WFlag_N (Nb N b2) p _ a.keep _ HX.out (by simp only [List.length_append, be_length]; omega)).mono ?_
 rintro e u3 ⟨rfl, hwu3, hgu3⟩
 have HX := Lib.hid hwu3
 have HS := Lib.hid (HS.out.trans_same hgu3)
 refine hK.out _ _ HS.out (fun _ => ?_)
 clear hK K hwu3 hgu3
 try simp only [Act.put, sA, sB, sC]
 refine wpAnyH_done (by kernel_rfl) ?_ _
 obtain ⟨g, hg⟩ : ∃ g, f ++ (be (u64 a.id) 8) ++ (be (u64 a.size) 8) ++ [flagB a.keep] = g := ⟨_, rfl⟩
 have hgl : g.length = f.length + 17 := by rw [← hg]; simp only [List.length_append, be_length, List.length_cons, List.length_nil]
 replace HFm := Lib.hid (HFm.out g hg.symm)
 rw [hg] at HX
 clear hg
 have hrr : Hid (u3.rangeAt b2 3 (a.r.map fun n : Nat => Value.int .u32 n)) := Lib.hid (fun j v hv => by
   rw [List.getElem?_map] at hv
   obtain ⟨n, hn, rfl⟩ := Option.map_eq_some_iff.1 hv
   have hj := (List.getElem?_eq_some_iff.1 hn).1
   have h := hP0.out.reg j (by rw [HBd.out.r8] at hj; exact hj)
   rw [Pt.g, List.getD, hn] at h
   exact HS.out.cell_some h (fun h => h (.inr rfl)))
 have hrl : Hid ((a.r.map fun n : Nat => Value.int .u32 n).length = 8) := Lib.hid (by rw [List.length_map, HBd.out.r8])
 obtain ⟨RL, hRL⟩ : ∃ RL, (a.r.map fun n : Nat => Value.int .u32 n) = RL := ⟨_, rfl⟩
 rw [hRL] at hrr hrl
 have HRL := Lib.hid hRL
 clear hRL
 go_wp2_with (refine sel (some 16) (.load _ (.tmp 15)) ?_; refine wpList_load_mid rfl 102 (.tmp 15) rfl b2 3 rfl RL _ hrr.out Tryz.underlying102 rfl (by rw [hrl.out]; kernel_rfl) ?_)
 go_loopw [17] (fun iv wr => ∃ k : Nat, k ≤ 8 ∧ iv = .int .i64 k ∧ Hid (IsWN (Nb N b2) wr p (g ++ (a.r.take k).flatMap fun n : Nat => be (u64 (n : Int)) 8) 0) ∧ Hid (Chg (Nt (Nb N b2)) W0 wr)) (fun iv _ => 8 - (intOf iv).toNat)
 case atStart => exact ⟨0, Nat.zero_le _, rfl, Lib.hid (by simpa using HX.out), HS⟩
 case round =>
  obtain ⟨k, hk, rfl, HX, HS⟩ := hrel
  by_cases hlt : k < 8
  ·obtain ⟨rk, hrk⟩ : ∃ r, a.r[k]? = some r := ⟨_, List.getElem?_eq_getElem (by rw [HBd.out.r8]; exact hlt)⟩
   have hltd : decide ((k : Int) < 8) = true := by rw [decide_eq_true_eq]; omega
   have hrb : (rk : Int) < 4294967296 := by
    have h := HBd.out.rb k
    rw [List.getD, hrk] at h
    simp only [Option.getD_some] at h
    omega
   have hidx := idx8 hrl.out (k := k) (v := .int .u32 (rk : Nat)) (by rw [← HRL.out, List.getElem?_map, hrk]; rfl)
   have q1 : wr.cell? ⟨bx, 0, none⟩ = some (.pointer (some ⟨p, 0, none⟩)) := HS.out.cell_some q0 (fun h => h (.inl hbN))
   have HI := Lib.hid (WInt_N (Nb N b2) p _ (rk : Int) wr HX.out (by
     have h1 := flat_take_le (fun n : Nat => be (u64 (n : Int)) 8) a.r k
     have h2 : (a.r.flatMap fun n : Nat => be (u64 (n : Int)) 8).length = 64 := wWords_len HBd.out.r8
     rw [List.length_append]
     omega))
   have HSn := Lib.hid (flat_snoc (wt := fun n : Nat => be (u64 (n : Int)) 8) hrk)
   clear hrk
   go_wp2_with fail
   refine HI.out.mono ?_
   rintro e u ⟨rfl, hw, hg⟩
   have HX2 : Hid (IsWN (Nb N b2) u p (g ++ (a.r.take (k + 1)).flatMap fun n : Nat => be (u64 (n : Int)) 8) 0) := Lib.hid (by rw [HSn.out, ← List.append_assoc]; exact hw)
   have HS2 := Lib.hid (HS.out.trans_same hg)
   clear hw hg
   go_wp2_with fail
   exact ⟨⟨k + 1, by omega, by simp, HX2, HS2⟩, by simp [intOf]; omega⟩
  ·obtain rfl : k = 8 := by omega
   have hltd : decide (((8 : Nat) : Int) < 8) = false := by decide
   have HXe : Hid (IsWN (Nb N b2) wr p (g ++ a.r.flatMap fun n : Nat => be (u64 (n : Int)) 8) 0) := Lib.hid (by
     have h := HX.out
     rwa [List.take_of_length_le (by rw [HBd.out.r8]; exact Nat.le_refl _)] at h)
   have hgl2 : (g ++ a.r.flatMap fun n : Nat => be (u64 (n : Int)) 8).length = f.length + 81 := by
    have h2 : (a.r.flatMap fun n : Nat => be (u64 (n : Int)) 8).length = 64 := wWords_len HBd.out.r8
    rw [List.length_append]; omega
   obtain ⟨g2, hg2⟩ : ∃ g2, (g ++ a.r.flatMap fun n : Nat => be (u64 (n : Int)) 8) = g2 := ⟨_, rfl⟩
   rw [hg2] at HXe hgl2 HFm
   clear hg2 HX
   have HBy : Hid (∀ (W : World) (x : List UInt8), IsWN (Nb N b2) W p x 0 → x.length + 1 ≤ 65536 → Calls Tryz.prog 71 #[.pointer (some ⟨p, 0, none⟩), .int .u8 (a.st : Nat)] W fun e w' => e = .returned (.pointer (some ⟨p, 0, none⟩)) ∧ IsWN (Nb N b2) w' p (x ++ [UInt8.ofNat a.st]) 0 ∧ Chg (Nt (Nb N b2)) W w') := Lib.hid (fun W x h1 h2 => by
     have h := WByte_N (Nb N b2) p x (UInt8.ofNat a.st) W h1 h2
     have e8 : (UInt8.ofNat a.st).toNat = a.st := by rw [ofNat_toNat]; have := HBd.out.stb; omega
     rwa [e8] at h)
   have hpc : (a.pc : Int) < 4294967296 := by have := HBd.out.pcb; omega
   go_wp2_with fail
   have HX : Hid (IsWN (Nb N b2) wr.drew p g2 0) := Lib.hid (isWN_chg HXe.out ((Chg.refl Non _).drew))
   replace HS := Lib.hid (HS.out.trans_same ((Chg.refl _ wr).drew))
   refine wp_region_held_drew (S := Chg (Nt (Nb N b2)) W0) (by kernel_rfl) HS.out (fun hHeld => ?_)
   clear hHeld
   refine hp 0 25 (.pointer (some ⟨p, 0, none⟩)) rfl HS.out ?_ (he := (fun W hW => by have hc := hW.cell_some q0 (fun h => h (.inl hbN)); go_simp))
   refine hp 1 26 (.pointer (some ⟨b2, 11, none⟩)) rfl HS.out ?_
   refine hp 2 27 (.int .u32 (a.pc : Nat)) rfl HS.out ?_ (he := (fun W hW => by have hc := hW.cell_some p11 (fun h => h (.inr rfl)); go_simp))
   refine hp 3 28 (.int .i64 (a.pc : Nat)) rfl HS.out ?_ (he := (fun W hW => by have hw := Go.IntWalk.i64_in (a.pc : Int) (by omega); go_simp))
   refine hp 5 30 (.pointer (some ⟨b2, 12, none⟩)) rfl HS.out ?_
   refine hp 6 31 (.int .u8 (a.st : Nat)) rfl HS.out ?_ (he := (fun W hW => by have hc := hW.cell_some p12 (fun h => h (.inr rfl)); go_simp))
   refine hp 8 33 (.pointer (some ⟨b2, 13, none⟩)) rfl HS.out ?_
   refine hp 9 34 (.slice A a.mem.length c) rfl HS.out ?_ (he := (fun W hW => by have hc := hW.cell_some p13 (fun h => h (.inr rfl)); go_simp))
   refine h_one 4 (by kernel_rfl) rfl (by kernel_rfl) ?_
   intro K hK
   go_simp
   refine (WInt_N (Nb N b2) p _ (a.pc : Int) _ HX.out (by omega)).mono ?_
   rintro e u1 ⟨rfl, hwu1, hgu1⟩
   have HX := Lib.hid hwu1
   have HS := Lib.hid (HS.out.trans_same hgu1)
   refine hK.out _ _ HS.out (fun _ => ?_)
   clear hK K hwu1 hgu1
   try simp only [Act.put, sA, sB, sC]
   refine h_one 7 (by kernel_rfl) rfl (by kernel_rfl) ?_
   intro K hK
   go_simp
   refine (HBy.out _ _ HX.out (by rw [List.length_append, be_length]; omega)).mono ?_
   rintro e u2 ⟨rfl, hwu2, hgu2⟩
   have HX := Lib.hid hwu2
   have HS := Lib.hid (HS.out.trans_same hgu2)
   refine hK.out _ _ HS.out (fun _ => ?_)
   clear hK K hwu2 hgu2
   try simp only [Act.put, sA, sB, sC]
   refine h_one 10 (by kernel_rfl) rfl (by kernel_rfl) ?_
   intro K hK
   go_simp
   refine (WBytes_N (Nb N b2) p c _ a.mem A _ HX.out (HRd.out _ HS.out) (by simp only [List.length_append, be_length, List.length_cons, List.length_nil]; omega)).mono ?_
   rintro e u3 ⟨rfl, hwu3, hgu3⟩
   have HX := Lib.hid hwu3
   have HS := Lib.hid (HS.out.trans_same hgu3)
   refine hK.out _ _ HS.out (fun _ => ?_)
   clear hK K hwu3 hgu3
   try simp only [Act.put, sA, sB, sC]
   refine wpAnyH_done (by kernel_rfl) ?_ _
   have HXn := Lib.hid (HX.out.less (N := N) (fun k h => .inl h))
   rw [HFm.out] at HXn
   have HSn := Lib.hid (hgN.out.trans_same (Nt.less (N := N) HS.out (fun k h => .inl h)))
   go_wp2_with fail
   go_end0
   exact ⟨rfl, HXn.out, HSn.out⟩
set_option maxRecDepth 100000 in
theorem putsQueue (I N : Nat → Prop) (hI : ∀ b, I b → N b) (l : List Qu) (p bx : Nat) (hbN : N bx) (hl4 : ∀ q ∈ l, q.msgs.length ≤ 1000) : Puts (quV I) aggV l wQu N p bx 74 := by
 rintro W a vs f ha ⟨m, rfl, hm, hbd, hl⟩ hW hbx hroom
 have hml := hl4 a ha
 have hroom2 : f.length + 40 + (wMs a.msgs).length ≤ 65536 := by
  have e : (wQu a).length = 40 + (wMs a.msgs).length := by unfold wQu; simp only [List.length_append, wInt_len8]; omega
  rw [e] at hroom; omega
 have HFm : Hid (f ++ be (u64 a.ch.id) 8 ++ be (u64 a.ch.src) 8 ++ be (u64 a.ch.dst) 8 ++ be (u64 a.ch.cap) 8 ++ be (u64 a.ch.size) 8 ++ wMs a.msgs = f ++ wQu a) := Lib.hid (by
   unfold wQu; simp only [wInt, List.append_assoc])
 obtain ⟨A, c, rfl, hc, hcm, hr⟩ := hm
 have HR := Lib.hid hr
 have HW := Lib.hid hW
 clear hW hr hroom ha hl4
 show Calls Tryz.prog 74 #[.agg (a.L (.slice A a.msgs.length c)).toArray, .pointer (some ⟨bx, 0, none⟩)] W _
 simp only [Qu.L]
 go_enter Tryz.func74, Tryz.ntmps74
 go_wp2_with fail
 obtain ⟨OQ, hOQ⟩ : ∃ o, Obj.cells #[.int .i64 a.ch.id, .int .i64 a.ch.src, .int .i64 a.ch.dst, .int .i64 a.ch.cap, .int .i64 a.ch.size, .slice A a.msgs.length c] 110 = o := ⟨_, rfl⟩
 obtain ⟨OC, hOC⟩ : ∃ o, Obj.cells #[.int .i64 a.ch.id, .int .i64 a.ch.src, .int .i64 a.ch.dst, .int .i64 a.ch.cap, .int .i64 a.ch.size] 107 = o := ⟨_, rfl⟩
 rw [hOQ, hOC]
 have hs1 : (W.alloc OQ).heap.size = W.heap.size + 1 := by simp
 have hX0 := (HW.out.box OQ).box OC
 rw [hs1] at hX0
 have hg2 : Chg Non W ((W.alloc OQ).alloc OC) := ((Chg.refl Non W).alloc OQ).alloc OC
 have hbq := al_2_0 W OQ OC
 have hbc := al_2_1 W OQ OC
 obtain ⟨W0, hW0⟩ : ∃ W0, (W.alloc OQ).alloc OC = W0 := ⟨_, rfl⟩
 obtain ⟨b2, hb2⟩ : ∃ b2, W.heap.size = b2 := ⟨_, rfl⟩
 obtain ⟨b3, hb3⟩ : ∃ b3, b2 + 1 = b3 := ⟨_, rfl⟩
 rw [hW0] at hX0 hg2 hbq hbc ⊢
 rw [hb2] at hX0 hbq hbc ⊢
 rw [hb3] at hX0 hbc ⊢
 subst hOQ hOC
 have q0 := hg2.cell_some hbx (fun e => e)
 have m5 := blk_cell hbq 5 (v := .slice A a.msgs.length c) rfl
 have c0 := blk_cell hbc 0 (v := .int .i64 a.ch.id) rfl
 have c1 := blk_cell hbc 1 (v := .int .i64 a.ch.src) rfl
 have c2 := blk_cell hbc 2 (v := .int .i64 a.ch.dst) rfl
 have c3 := blk_cell hbc 3 (v := .int .i64 a.ch.cap) rfl
 have c4 := blk_cell hbc 4 (v := .int .i64 a.ch.size) rfl
 have HG0 := Lib.hid hg2
 have HNN : Hid (∀ k, N k → Nb (Nb N b2) b3 k) := Lib.hid (fun k h => .inl (.inl h))
 clear hW0 hb2 hb3 hbq hbc hs1 HW hbx hg2
 have HS : Hid (Chg (Nt (Nb (Nb N b2) b3)) W0 W0.drew) := Lib.hid ((Chg.refl _ _).drew)
 have HX : Hid (IsWN (Nb (Nb N b2) b3) W0.drew p f 0) := Lib.hid (isWN_chg hX0 ((Chg.refl Non _).drew))
 clear hX0
 refine wp_region_held_drew (S := Chg (Nt (Nb (Nb N b2) b3)) W0) (by kernel_rfl) HS.out (fun hHeld => ?_)
 clear hHeld
 refine hp 0 6 (.pointer (some ⟨p, 0, none⟩)) rfl HS.out ?_ (he := (fun W hW => by have hc := hW.cell_some q0 (fun h => h (HNN.out _ hbN)); go_simp))
 refine hp 1 7 (.pointer (some ⟨b3, 0, none⟩)) rfl HS.out ?_
 refine hp 2 8 (.int .i64 a.ch.id) rfl HS.out ?_ (he := (fun W hW => by have hc := hW.cell_some c0 (fun h => h (.inr rfl)); go_simp))
 refine hp 4 10 (.pointer (some ⟨b3, 1, none⟩)) rfl HS.out ?_
 refine hp 5 11 (.int .i64 a.ch.src) rfl HS.out ?_ (he := (fun W hW => by have hc := hW.cell_some c1 (fun h => h (.inr rfl)); go_simp))
 refine hp 7 13 (.pointer (some ⟨b3, 2, none⟩)) rfl HS.out ?_
 refine hp 8 14 (.int .i64 a.ch.dst) rfl HS.out ?_ (he := (fun W hW => by have hc := hW.cell_some c2 (fun h => h (.inr rfl)); go_simp))
 refine hp 10 16 (.pointer (some ⟨b3, 3, none⟩)) rfl HS.out ?_
 refine hp 11 17 (.int .i64 a.ch.cap) rfl HS.out ?_ (he := (fun W hW => by have hc := hW.cell_some c3 (fun h => h (.inr rfl)); go_simp))
 refine hp 13 19 (.pointer (some ⟨b3, 4, none⟩)) rfl HS.out ?_
 refine hp 14 20 (.int .i64 a.ch.size) rfl HS.out ?_ (he := (fun W hW => by have hc := hW.cell_some c4 (fun h => h (.inr rfl)); go_simp))
 refine h_one 3 (by kernel_rfl) rfl (by kernel_rfl) ?_
 intro K hK
 go_simp
 refine (WInt_N (Nb (Nb N b2) b3) p _ a.ch.id _ HX.out (by first | omega | (simp only [List.length_append, be_length]; omega))).mono ?_
 rintro e u1 ⟨rfl, hwu1, hgu1⟩
 have HX := Lib.hid hwu1
 have HS := Lib.hid (HS.out.trans_same hgu1)
 refine hK.out _ _ HS.out (fun _ => ?_)
 clear hK K hwu1 hgu1
 try simp only [Act.put, sA, sB, sC]
 refine h_one 6 (by kernel_rfl) rfl (by kernel_rfl) ?_
 intro K hK
 go_simp
 refine (WInt_N (Nb (Nb N b2) b3) p _ a.ch.src _ HX.out (by first | omega | (simp only [List.length_append, be_length]; omega))).mono ?_
 rintro e u2 ⟨rfl, hwu2, hgu2⟩
 have HX := Lib.hid hwu2
 have HS := Lib.hid (HS.out.trans_same hgu2)
 refine hK.out _ _ HS.out (fun _ => ?_)
 clear hK K hwu2 hgu2
 try simp only [Act.put, sA, sB, sC]
 refine h_one 9 (by kernel_rfl) rfl (by kernel_rfl) ?_
 intro K hK
 go_simp
 refine (WInt_N (Nb (Nb N b2) b3) p _ a.ch.dst _ HX.out (by first | omega | (simp only [List.length_append, be_length]; omega))).mono ?_
 rintro e u3 ⟨rfl, hwu3, hgu3⟩
 have HX := Lib.hid hwu3
 have HS := Lib.hid (HS.out.trans_same hgu3)
 refine hK.out _ _ HS.out (fun _ => ?_)
 clear hK K hwu3 hgu3
 try simp only [Act.put, sA, sB, sC]
 refine h_one 12 (by kernel_rfl) rfl (by kernel_rfl) ?_
 intro K hK
 go_simp
 refine (WInt_N (Nb (Nb N b2) b3) p _ a.ch.cap _ HX.out (by first | omega | (simp only [List.length_append, be_length]; omega))).mono ?_
 rintro e u4 ⟨rfl, hwu4, hgu4⟩
 have HX := Lib.hid hwu4
 have HS := Lib.hid (HS.out.trans_same hgu4)
 refine hK.out _ _ HS.out (fun _ => ?_)
 clear hK K hwu4 hgu4
 try simp only [Act.put, sA, sB, sC]
 refine h_one 15 (by kernel_rfl) rfl (by kernel_rfl) ?_
 intro K hK
 go_simp
 refine (WInt_N (Nb (Nb N b2) b3) p _ a.ch.size _ HX.out (by first | omega | (simp only [List.length_append, be_length]; omega))).mono ?_
 rintro e u5 ⟨rfl, hwu5, hgu5⟩
 have HX := Lib.hid hwu5
 have HS := Lib.hid (HS.out.trans_same hgu5)
 refine hK.out _ _ HS.out (fun _ => ?_)
 clear hK K hwu5 hgu5
 try simp only [Act.put, sA, sB, sC]
 refine wpAnyH_done (by kernel_rfl) ?_ _
 obtain ⟨g, hg⟩ : ∃ g, f ++ be (u64 a.ch.id) 8 ++ be (u64 a.ch.src) 8 ++ be (u64 a.ch.dst) 8 ++ be (u64 a.ch.cap) 8 ++ be (u64 a.ch.size) 8 = g := ⟨_, rfl⟩
 have hgl : g.length = f.length + 40 := by rw [← hg]; simp only [List.length_append, be_length]
 rw [hg] at HX HFm
 clear hg
 have q1 := HS.out.cell_some q0 (fun h => h (HNN.out _ hbN))
 have m6 := HS.out.cell_some m5 (fun h => h (.inl (.inr rfl)))
 have hkI : ∀ b, I b → ¬ Nt (Nb (Nb N b2) b3) b := fun b hb h => h (HNN.out _ (hI b hb))
 have HL := Lib.hid (listMsg (msgV I) I (Nb (Nb N b2) b3) (fun S W W' a vs hg hn h => msgV.keep h hg hn) msgV_one wBy p bx A a.msgs c g u5 (fun b hb => HNN.out _ (hI b hb)) (HNN.out _ hbN)
   ((HR.out.keep HG0.out (fun _ _ e => e) (fun a vs _ h => msgV.keep h HG0.out (fun _ _ e => e))).keep HS.out hkI (fun a vs _ h => msgV.keep h HS.out hkI)) (putsMsg I _ _ p bx) hc hcm hml q1 HX.out (by
     have e : (wMs a.msgs).length = 8 + (a.msgs.flatMap wBy).length := by unfold wMs; rw [List.length_append, wInt_len8]
     omega))
 have hEq : Hid (g ++ (wInt (a.msgs.length : Int) ++ a.msgs.flatMap wBy) = f ++ wQu a) := Lib.hid (by rw [← HFm.out]; rfl)
 clear HFm
 go_wp2_with fail
 refine HL.out.mono ?_
 rintro e u ⟨rfl, hw, hg⟩
 rw [hEq.out] at hw
 have HXn := Lib.hid (hw.less (N := N) HNN.out)
 have HSn := Lib.hid (HG0.out.non_then (Nt.less (N := N) (HS.out.trans_same hg) HNN.out))
 clear hw hg
 go_wp2_with fail
 go_end0
 exact ⟨rfl, HXn.out, HSn.out⟩
end
section
open Go.RowKit
theorem hTwo {P : Program} {md : Region.Mode} {ops : Array Oper} {Q : Exit → Act → World → Prop} {S : World → Prop} {fuel : Nat} {listed : Array Bool} {a : Act} {w : World} (i j : Nat) {oi oj : Oper} (hr : Region.ready md ops listed = [i, j]) (hi : ops[i]? = some oi) (hj : ops[j]? = some oj) (hwi : Region.wanted oi (yielded ops a.tmps) = true) (hwj : Region.wanted oj (yielded ops a.tmps) = true)
  (h1 : ∀ K : Act → World → Prop, Shut (∀ a w, S w → (S w → wpAnyH P md ops Q S fuel (listed.setIfInBounds i true) a w) → K a w) → Oper.wp P oi a w K Q)
  (h2 : ∀ K : Act → World → Prop, Shut (∀ a w, S w → (S w → wpAnyH P md ops Q S fuel (listed.setIfInBounds j true) a w) → K a w) → Oper.wp P oj a w K Q) : wpAnyH P md ops Q S (fuel + 1) listed a w :=
 wpAnyH_ready hr (by simp) (AllReadyH.cons hi (fun K hK => by rw [if_pos hwi]; exact h1 K hK) (AllReadyH.cons hj (fun K hK => by rw [if_pos hwj]; exact h2 K hK) AllReadyH.nil))
theorem IsWN.cellN {N : Nat → Prop} {p : Nat} {l : List UInt8} {er : Int} {w : World} (h : IsWN N w p l er) (b i : Nat) (v : Value) (hb : N b) : IsWN N (w.setCell ⟨b, i, none⟩ v) p l er := by
 obtain ⟨h1, h2, v0, h3, h4, h5⟩ := h
 refine ⟨fun k hk => by simpa [World.setCell] using h1 k hk, h2, v0, ?_, ?_, h5⟩
 ·exact ((setAt w b i v).block p (Array.getElem?_eq_some_iff.1 h3).1 (fun e => h2 (by have e : p = b := e; rw [e]; exact hb))).trans h3
 ·exact ownsRow_setCell_other h4 (a := ⟨b, i, none⟩) (by intro e; exact h5 b e hb) v
set_option maxRecDepth 100000 in
theorem print_ok (I : Nat → Prop) (s : Sta) (vb vd : Value) (w : World) (h : StaV I w s vb vd) (hI : ∀ b, I b → b < w.heap.size) (hm : mayS s = true) (hb : StBd s) :
  Calls Tryz.prog 32 #[.agg #[.int .i64 s.frames, vb, vd]] w fun e w' => ∃ A c, e = .returned (.tuple #[.slice A (formS s).length c, .int .i64 0]) ∧ (formS s).length ≤ c ∧ c ≤ maxLen ∧ Own w.heap.size w' A (formS s) ∧ Chg Non w w' := by
 have HM := Lib.hid (fun W hg => smay_ok I s vb vd W (h.non (w' := W) hg))
 have hlen := (formS_len hb).1
 have hfe : formS s = be (u64 s.frames) 8 ++ ((wInt (s.parts.length : Int) ++ s.parts.flatMap wPt) ++ (wInt (s.queues.length : Int) ++ s.queues.flatMap wQu)) := by unfold formS; simp only [wInt, List.append_assoc]
 have hlp : (s.parts.flatMap wPt).length + (s.queues.flatMap wQu).length + 24 ≤ 4684 := by rw [hfe] at hlen; simp only [List.length_append, be_length, wInt_len8] at hlen; omega
 obtain ⟨⟨A, c, rfl, hc, hcm, hrp⟩, ⟨A2, c2, rfl, hc2, hcm2, hrq⟩⟩ := h
 have HRP := Lib.hid hrp
 have HRQ := Lib.hid hrq
 have HFE := Lib.hid hfe
 have HLN := Lib.hid hlen
 have HBd := Lib.hid hb
 rw [hm] at HM
 clear hrp hrq hfe hlen hb hm
 go_enter Tryz.func32, Tryz.ntmps32
 go_wp2_with fail
 refine (HM.out _ ((Chg.refl Non w).alloc _)).mono ?_
 rintro e v0 ⟨rfl, hg0⟩
 have HB1 := Lib.hid (blk_keep (blk_new w (.cells #[.int .i64 s.frames, .slice A s.parts.length c, .slice A2 s.queues.length c2] 25)) hg0 (fun e => e))
 have HG0 := Lib.hid (((Chg.refl Non w).alloc _).then_non hg0)
 clear hg0 HM
 have b0 := blk_cell HB1.out 0 (v := .int .i64 s.frames) rfl
 go_wp2_with fail
 obtain ⟨V, hV⟩ : ∃ V, V = v0.drew := ⟨_, rfl⟩
 have HGV : Hid (Chg Non w V) := Lib.hid (by rw [hV]; exact HG0.out.drew)
 obtain ⟨b1, hb1⟩ : ∃ b, w.heap.size = b := ⟨_, rfl⟩
 have HBV : Hid (V.heap[b1]? = some (.cells #[.int .i64 s.frames, .slice A s.parts.length c, .slice A2 s.queues.length c2] 25 (0, 0))) := Lib.hid (by rw [hV, ← hb1]; exact HB1.out)
 have c0 := blk_cell HBV.out 0 (v := .int .i64 s.frames) rfl
 have c1 := blk_cell HBV.out 1 (v := .slice A s.parts.length c) rfl
 have c2' := blk_cell HBV.out 2 (v := .slice A2 s.queues.length c2) rfl
 have hltB : b1 < V.heap.size := lt_of_cell c0
 obtain ⟨B, hB⟩ : ∃ B, V.heap.size = B := ⟨_, rfl⟩
 have hN : Hid (∀ k, Upto B k → k < V.heap.size) := Lib.hid (fun k hk => by have hk : k < B := hk; omega)
 have hBe : Hid (V.heap.size = B) := Lib.hid hB
 clear hB
 clear b0
 rw [hb1]
 apply wp_cutB (α := Nat × Nat) (f := fun y x => (((((x.put (some 8) (.pointer (some ⟨y.2, 0, none⟩))).put (some 9) (.pointer (some ⟨b1, 0, none⟩))).put (some 10) (.int .i64 s.frames)).put (some 11) (.pointer (some ⟨y.2, 0, none⟩))).put (some 4) (.pointer (some ⟨y.1, 0, none⟩))))
  (R := fun y v => v.heap[y.1]? = some (.cells #[.pointer (some ⟨y.2, 0, none⟩)] 126 (0, 0)) ∧ IsWN (Nb (Upto B) y.1) v y.2 (be (u64 s.frames) 8) 0 ∧ Chg Non V v ∧ B ≤ y.1)
 ·have HV : Hid (Chg Non V V) := Lib.hid (Chg.refl _ _)
  refine wp_region_held_drew (S := Chg Non V) (by kernel_rfl) (by rw [hV]; exact Chg.refl _ _) (fun hHeld => ?_)
  clear hHeld
  rw [← hV]
  clear hV
  refine hp 1 9 (.pointer (some ⟨b1, 0, none⟩)) rfl HV.out ?_ (hQ := fun _ _ _ h => absurd h.1 (by simp))
  refine hp 2 10 (.int .i64 s.frames) rfl HV.out ?_ (he := (fun W hW => by have hc := hW.cell_some c0 (fun e => e); go_simp)) (hQ := fun _ _ _ h => absurd h.1 (by simp))
  refine hTwo 0 4 (by kernel_rfl) rfl rfl (by kernel_rfl) (by kernel_rfl) ?_ ?_
  ·intro K hK
   go_simp
   refine (NewWriter_N (Upto B) V hN.out).mono ?_
   rintro e u1 ⟨rfl, hw, hg⟩
   refine hK.out _ _ (HV.out.then_non hg) (fun _ => ?_)
   clear hK K
   try simp only [Act.put, sA, sB, sC]
   obtain ⟨pw, hpw⟩ : ∃ k, V.heap.size = k := ⟨_, rfl⟩
   rw [hpw] at hw ⊢
   have HW := Lib.hid hw
   have HV := Lib.hid (HV.out.then_non hg)
   clear hw hg hpw
   refine hTwo 3 4 (by kernel_rfl) rfl rfl (by kernel_rfl) (by kernel_rfl) ?_ ?_
   ·intro K hK
    go_simp
    refine (WInt_N (Upto B) pw [] s.frames u1 HW.out (by simp)).mono ?_
    rintro e u2 ⟨rfl, hw, hg⟩
    have HV := Lib.hid (HV.out.then_new hg (fun x e => by have e : ¬ x < B := e; have := hBe.out; omega))
    refine hK.out _ _ HV.out (fun _ => ?_)
    clear hK K
    try simp only [Act.put, sA, sB, sC]
    have HW := Lib.hid hw
    clear hw hg
    refine h_one 4 (by kernel_rfl) rfl (by kernel_rfl) ?_
    intro K hK
    go_simp
    refine hK.out _ _ (HV.out.alloc _) (fun _ => ?_)
    clear hK K
    try simp only [Act.put, sA, sB, sC]
    have HB := Lib.hid (blk_new u2 (.cells #[.pointer none] 126))
    have HW := Lib.hid (HW.out.box (.cells #[.pointer none] 126))
    have hle : B ≤ u2.heap.size := by have := HV.out.size; have := hBe.out; omega
    have HV := Lib.hid (HV.out.alloc (.cells #[.pointer none] 126))
    obtain ⟨W8, hW8⟩ : ∃ X, u2.alloc (.cells #[.pointer none] 126) = X := ⟨_, rfl⟩
    have hlt8 : u2.heap.size < W8.heap.size := by rw [← hW8]; simp
    rw [hW8] at HB HV HW ⊢
    clear hW8
    obtain ⟨bx, hbx⟩ : ∃ k, u2.heap.size = k := ⟨_, rfl⟩
    rw [hbx] at HB hle hlt8 HW ⊢
    clear hbx
    clear hlt8
    refine h_one 5 (by kernel_rfl) rfl (by kernel_rfl) ?_
    intro K hK
    go_simp
    have hc8 := blk_cell HB.out 0 (v := .pointer none) rfl
    have hf8 : W8.frozen? ⟨bx, 0, none⟩ = false := frozen_of_row _ _ _ _ _ HB.out
    go_simp
    have hgs := setAt W8 bx 0 (.pointer (some ⟨pw, 0, none⟩))
    refine hK.out _ _ (HV.out.then_new hgs (fun x e => by have e : x = bx := e; have := hBe.out; omega)) (fun _ => ?_)
    clear hK K
    try simp only [Act.put, sA, sB, sC]
    refine wpAnyH_done (by kernel_rfl) ?_ _
    refine ⟨rfl, (bx, pw), by kernel_rfl, ?_, ?_, HV.out.then_new hgs (fun x e => by have e : x = bx := e; have := hBe.out; omega), hle⟩
    ·rw [heap_setCell_same _ _ _ _ _ _ HB.out]; rfl
    ·exact HW.out.cellN bx 0 _ (.inr rfl)
   ·intro K hK
    go_simp
    refine hK.out _ _ (HV.out.alloc _) (fun _ => ?_)
    clear hK K
    try simp only [Act.put, sA, sB, sC]
    have HB := Lib.hid (blk_new u1 (.cells #[.pointer none] 126))
    have HW := Lib.hid (HW.out.box (.cells #[.pointer none] 126))
    have hle : B ≤ u1.heap.size := by have := HV.out.size; have := hBe.out; omega
    have HV := Lib.hid (HV.out.alloc (.cells #[.pointer none] 126))
    obtain ⟨W8, hW8⟩ : ∃ X, u1.alloc (.cells #[.pointer none] 126) = X := ⟨_, rfl⟩
    have hlt8 : u1.heap.size < W8.heap.size := by rw [← hW8]; simp
    rw [hW8] at HB HV HW ⊢
    clear hW8
    obtain ⟨bx, hbx⟩ : ∃ k, u1.heap.size = k := ⟨_, rfl⟩
    rw [hbx] at HB hle hlt8 HW ⊢
    clear hbx
    clear hlt8
    refine h_one 3 (by kernel_rfl) rfl (by kernel_rfl) ?_
    intro K hK
    go_simp
    refine (WInt_N (Nb (Upto B) bx) pw [] s.frames W8 HW.out (by simp)).mono ?_
    rintro e u2 ⟨rfl, hw, hg⟩
    have HV := Lib.hid (HV.out.then_new hg (fun x e => by have e : ¬ x < B := fun h => e (.inl h); have := hBe.out; omega))
    have HB := Lib.hid (blk_keep HB.out hg (fun h => h (.inr rfl)))
    refine hK.out _ _ HV.out (fun _ => ?_)
    clear hK K
    try simp only [Act.put, sA, sB, sC]
    have HW := Lib.hid hw
    clear hw hg
    refine h_one 5 (by kernel_rfl) rfl (by kernel_rfl) ?_
    intro K hK
    go_simp
    have hc8 := blk_cell HB.out 0 (v := .pointer none) rfl
    have hf8 : u2.frozen? ⟨bx, 0, none⟩ = false := frozen_of_row _ _ _ _ _ HB.out
    go_simp
    have hgs := setAt u2 bx 0 (.pointer (some ⟨pw, 0, none⟩))
    refine hK.out _ _ (HV.out.then_new hgs (fun x e => by have e : x = bx := e; have := hBe.out; omega)) (fun _ => ?_)
    clear hK K
    try simp only [Act.put, sA, sB, sC]
    refine wpAnyH_done (by kernel_rfl) ?_ _
    refine ⟨rfl, (bx, pw), by kernel_rfl, ?_, ?_, HV.out.then_new hgs (fun x e => by have e : x = bx := e; have := hBe.out; omega), hle⟩
    ·rw [heap_setCell_same _ _ _ _ _ _ HB.out]; rfl
    ·exact HW.out.cellN bx 0 _ (.inr rfl)
  ·intro K hK
   go_simp
   refine hK.out _ _ (HV.out.alloc _) (fun _ => ?_)
   clear hK K
   try simp only [Act.put, sA, sB, sC]
   have HB := Lib.hid (blk_new V (.cells #[.pointer none] 126))
   have hle : B ≤ V.heap.size := by have := HV.out.size; have := hBe.out; omega
   have HV := Lib.hid (HV.out.alloc (.cells #[.pointer none] 126))
   obtain ⟨W8, hW8⟩ : ∃ X, V.alloc (.cells #[.pointer none] 126) = X := ⟨_, rfl⟩
   have hlt8 : V.heap.size < W8.heap.size := by rw [← hW8]; simp
   rw [hW8] at HB HV ⊢
   clear hW8
   obtain ⟨bx, hbx⟩ : ∃ k, V.heap.size = k := ⟨_, rfl⟩
   rw [hbx] at HB hle hlt8 ⊢
   clear hbx
   have hNb : ∀ k, Nb (Upto B) bx k → k < W8.heap.size := fun k hk => by rcases hk with h | h; (have h : k < B := h; have := hBe.out; omega); (have h : k = bx := h; omega)
   clear hlt8
   refine h_one 0 (by kernel_rfl) rfl (by kernel_rfl) ?_
   intro K hK
   go_simp
   refine (NewWriter_N (Nb (Upto B) bx) W8 hNb).mono ?_
   rintro e u1 ⟨rfl, hw, hg⟩
   refine hK.out _ _ (HV.out.then_non hg) (fun _ => ?_)
   clear hK K
   try simp only [Act.put, sA, sB, sC]
   have HB := Lib.hid (blk_keep HB.out hg (fun e => e))
   obtain ⟨pw, hpw⟩ : ∃ k, W8.heap.size = k := ⟨_, rfl⟩
   rw [hpw] at hw ⊢
   have HW := Lib.hid hw
   have HV := Lib.hid (HV.out.then_non hg)
   clear hw hg hpw
   refine h_one 3 (by kernel_rfl) rfl (by kernel_rfl) ?_
   intro K hK
   go_simp
   refine (WInt_N (Nb (Upto B) bx) pw [] s.frames u1 HW.out (by simp)).mono ?_
   rintro e u2 ⟨rfl, hw, hg⟩
   have HV := Lib.hid (HV.out.then_new hg (fun x e => by have e : ¬ x < B := fun h => e (.inl h); have := hBe.out; omega))
   have HB := Lib.hid (blk_keep HB.out hg (fun h => h (.inr rfl)))
   refine hK.out _ _ HV.out (fun _ => ?_)
   clear hK K
   try simp only [Act.put, sA, sB, sC]
   have HW := Lib.hid hw
   clear hw hg
   refine h_one 5 (by kernel_rfl) rfl (by kernel_rfl) ?_
   intro K hK
   go_simp
   have hc8 := blk_cell HB.out 0 (v := .pointer none) rfl
   have hf8 : u2.frozen? ⟨bx, 0, none⟩ = false := frozen_of_row _ _ _ _ _ HB.out
   go_simp
   have hgs := setAt u2 bx 0 (.pointer (some ⟨pw, 0, none⟩))
   refine hK.out _ _ (HV.out.then_new hgs (fun x e => by have e : x = bx := e; have := hBe.out; omega)) (fun _ => ?_)
   clear hK K
   try simp only [Act.put, sA, sB, sC]
   refine wpAnyH_done (by kernel_rfl) ?_ _
   refine ⟨rfl, (bx, pw), by kernel_rfl, ?_, ?_, HV.out.then_new hgs (fun x e => by have e : x = bx := e; have := hBe.out; omega), hle⟩
   ·rw [heap_setCell_same _ _ _ _ _ _ HB.out]; rfl
   ·exact HW.out.cellN bx 0 _ (.inr rfl)
 ·clear hV
  rintro ⟨bx, pw⟩ v ⟨hbx, hw, hg, hge⟩
  have hwB : w.heap.size ≤ B := by have := HGV.out.size; have := hBe.out; omega
  have hIN : ∀ b, I b → Nb (Upto B) bx b := fun b hb => .inl (show b < B by have := hI b hb; omega)
  have hkN : ∀ b, I b → ¬ Nt (Nb (Upto B) bx) b := fun b hb h => h (hIN b hb)
  have hb1N : Nb (Upto B) bx b1 := .inl (show b1 < B by have := hBe.out; omega)
  have q0 := blk_cell hbx 0 (v := .pointer (some ⟨pw, 0, none⟩)) rfl
  have d1 := hg.cell_some c1 (fun e => e)
  have d2 := hg.cell_some c2' (fun e => e)
  have hGv := HGV.out.then_non hg
  have hnb : s.parts.length ≤ 1000 := by have := HBd.out.np; omega
  have HL1 := Lib.hid (listPart (ptV I) I (Nb (Upto B) bx) (fun S W W' a vs hg hn h => ptV.keep h hg hn) ptV_one wPt pw bx A s.parts c _ v hIN (.inr rfl) (HRP.out.keep hGv (fun _ _ e => e) (fun a vs _ h => ptV.keep h hGv (fun _ _ e => e)))
    (putsPart I _ hIN _ pw bx (.inr rfl)) hc hcm hnb q0 hw (by rw [be_length]; omega))
  have HRQ2 := Lib.hid (HRQ.out.keep hGv (fun _ _ e => e) (fun a vs _ h => quV.keep h hGv (fun _ _ e => e)))
  have HGvB : Hid (Chg Non V v) := Lib.hid hg
  have hgl : (be (u64 s.frames) 8 ++ (wInt (s.parts.length : Int) ++ s.parts.flatMap wPt)).length = 16 + (s.parts.flatMap wPt).length := by simp only [List.length_append, be_length, wInt_len8]; omega
  have HFE2 : Hid (be (u64 s.frames) 8 ++ (wInt (s.parts.length : Int) ++ s.parts.flatMap wPt) ++ (wInt (s.queues.length : Int) ++ s.queues.flatMap wQu) = formS s) := Lib.hid (by rw [HFE.out, List.append_assoc])
  clear hw HRP HRQ hg HFE
  obtain ⟨g, hgg⟩ : ∃ g, be (u64 s.frames) 8 ++ (wInt (s.parts.length : Int) ++ s.parts.flatMap wPt) = g := ⟨_, rfl⟩
  rw [hgg] at HL1 hgl HFE2
  clear hgg
  simp only [Act.put, sA, sB, sC]
  go_wp2_with fail
  refine HL1.out.mono ?_
  rintro e u1 ⟨rfl, hw1, hg1⟩
  have q1 := hg1.cell_some q0 (fun h => h (.inr rfl))
  have d3 := hg1.cell_some d2 (fun h => h hb1N)
  have hnq : s.queues.length ≤ 1000 := by have := HBd.out.nq; omega
  have HL2 := Lib.hid (listQueue (quV I) I (Nb (Upto B) bx) (fun S W W' a vs hg hn h => quV.keep h hg hn) quV_one wQu pw bx A2 s.queues c2 g u1 hIN (.inr rfl) (HRQ2.out.keep hg1 hkN (fun a vs _ h => quV.keep h hg1 hkN))
    (putsQueue I _ hIN _ pw bx (.inr rfl) (fun q hq => by have := (HBd.out.qs q hq).2.1; omega)) hc2 hcm2 hnq q1 hw1 (by omega))
  rw [HFE2.out] at HL2
  have HG1 := Lib.hid hg1
  clear hw1 hg1 HRQ2
  go_wp2_with fail
  refine HL2.out.mono ?_
  rintro e u2 ⟨rfl, hw2, hg2⟩
  have q2 := hg2.cell_some q1 (fun h => h (.inr rfl))
  have HD := Lib.hid (WDone_N _ pw (formS s) u2 hw2 (by have := HLN.out; omega))
  have HG2 : Hid (Chg Non w u2) := Lib.hid (HGV.out.then_non ((HGvB.out.then_new (HG1.out.trans_same hg2) (fun x e => by have e : ¬ x < B := fun h => e (.inl h); have := hBe.out; omega))))
  clear hw2 hg2
  go_wp2_with fail
  refine HD.out.mono ?_
  rintro e u3 ⟨A3, c3, rfl, h1, h2, h3, h4⟩
  have HO := Lib.hid (h3.mono HG2.out.size)
  have HG3 := Lib.hid (HG2.out.then_non h4)
  clear h3 h4
  go_wp2_with fail
  go_ret2
  exact ⟨A3, c3, rfl, h1, h2, HO.out, HG3.out⟩
end
end Go.Proofs.YtkgnlobabknkcaaGreat
