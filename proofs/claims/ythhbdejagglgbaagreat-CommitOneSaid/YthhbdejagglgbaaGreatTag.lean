/- Walks of package wire, readers: Tag. Arrays of 32 bytes. -/
import Derived.Test.YthhbdejagglgbaaGreatWireR
namespace Go.Proofs.YthhbdejagglgbaaGreat
open Go.RowKit
set_option linter.unusedVariables false

theorem run_results_cell_tmp {P : Program} {fn : Func} {p q : Tmp} {ty : TypeId} (h : fn.results = #[.cell p ty, .tmp q]) (tmps : Array Value) (w : World) (g : Nat) (t : TypeId) (cs : Array Value) (fr : Nat × Nat) (d : TypeDesc) (v : Value)
    (hp : tmps.getD p undef = .pointer (some ⟨g, 0, none⟩)) (hv : tmps.getD q undef = v) (hg : w.heap[g]? = some (.cells cs t fr))
    (hu : P.underlying ty = some d) (hd : (match d with | .struct _ | .array _ _ => true | _ => false) = true) (hi : (P.info? ty).map (·.size) = some cs.size) :
    (results fn tmps).run P w = .ok (.tuple #[.agg cs, v]) w := by
  have hp' : tmps[p]?.getD undef = .pointer (some ⟨g, 0, none⟩) := by simpa using hp
  have hv' : tmps[q]?.getD undef = v := by simpa using hv
  simp [results, h, hp', hv', asAddr, run_loadVar_row w g t ty cs fr d hg hu hd hi]

/-- a tag's cells, behind a name -/
def tagA (l : List UInt8) : Array Value := (l.map bv).toArray
theorem tagA_size (l : List UInt8) (h : l.length = 32) : (tagA l).size = 32 := by simp [tagA, h]
theorem tagA_one (l : List UInt8) : (tagA l).all (·.oneCell') = true := secV_one l
def zTag : List UInt8 := List.replicate 32 0
theorem zTag_len : zTag.length = 32 := by simp [zTag]
theorem info_tag : (Tryz.prog.info? 23).map (·.size) = some 32 := by kernel_rfl
theorem zero_tag (w : World) : (zeroValue 23).run Tryz.prog w = .ok (.agg (tagA zTag)) w := by kernel_rfl

theorem wpList_load_tag {w : World} {ops : Array Oper} {rest : List Oper} {op : Oper} {a : Act} {Q : Exit → Act → World → Prop} (hgd : op.guard = none) (x : Operand) (ho : op.op = .load 23 x)
    (b o : Nat) (hx : a.eval x = .pointer (some ⟨b, o, none⟩)) (l : List UInt8) (hc : w.rangeAt b o (l.map bv)) (hl : l.length = 32)
    (h : wpList Tryz.prog ops Q rest (a.put op.dst (.agg (tagA l))) w) : wpList Tryz.prog ops Q (op :: rest) a w :=
  wpList_load_mid hgd 23 x ho b o hx (l.map bv) _ hc Tryz.underlying23 rfl (by rw [List.length_map, hl]; exact info_tag) h

theorem range_of_rd {w : World} {b o : Nat} {l : List UInt8} (h : Rd w (some ⟨b, o, none⟩) l) : w.rangeAt b o (l.map bv) := by
  intro j v hv
  rw [List.getElem?_map] at hv
  obtain ⟨x, hx, rfl⟩ := Option.map_eq_some_iff.1 hv
  obtain ⟨b', o', e, hc⟩ := h j x hx
  injection e with e
  injection e with e1 e2
  subst e1 e2
  exact hc
theorem range_of_tag {w : World} {g : Nat} {t : TypeId} {fr : Nat × Nat} {l : List UInt8} (h : w.heap[g]? = some (.cells (tagA l) t fr)) : w.rangeAt g 0 (l.map bv) := by
  intro j v hv
  rw [cell_of_row _ _ _ _ _ _ h, Nat.zero_add]
  simpa [tagA] using hv

set_option maxRecDepth 100000 in
set_option maxHeartbeats 2000000 in
theorem Tag1_ok (A : Option Addr) (l : List UInt8) (w : World) (hr : Rd w A l) (hl : l.length = 32) :
    Calls Tryz.prog 92 #[.slice A 32 32] w fun e w' => e = .returned (.tuple #[.agg (tagA l), .bool true]) ∧ Chg Non w w' := by
  obtain ⟨b, o, rfl, hbl, _⟩ := hr.at_ (by omega)
  have HR := Lib.hid (range_of_rd hr)
  have HL := Lib.hid hl
  clear hr hl
  go_enter Tryz.func92, Tryz.ntmps92
  obtain ⟨Z, hZ⟩ : ∃ Z, tagA zTag = Z := ⟨_, rfl⟩
  go_wp2_with (first
    | (refine sel (some 5) (.sliceToArrayPointer 23 (.tmp 4)) ?_; refine wpList_plain rfl (fun K hK => ?_); go_simp; refine hK _ _ ?_)
    | (refine sel (some 6) (.load 23 (.tmp 5)) ?_; refine wpList_load_tag rfl (.tmp 5) rfl b o rfl l (fun j v hv => ((Chg.refl Non w).alloc _).cell_some (HR.out j v hv) (fun e => e)) HL.out ?_)
    | (refine sel none (.store 23 (.tmp 2) (.tmp 6)) ?_
       refine wpList_store_rowA rfl 23 (.tmp 2) (.tmp 6) rfl w.heap.size (tagA l) rfl rfl 23 _ (heap_alloc_new _ _) (by rw [tagA_size _ HL.out]; exact info_tag) (by rw [tagA_size _ HL.out]; rfl) (tagA_one _) ?_
       intro W hgW hbW
       have HB := Lib.hid hbW
       have hg1 : Chg Non w W := ((Chg.refl Non w).alloc _).then_new hgW (fun x e => by rw [e]; exact Nat.le_refl _)
       clear hbW hgW))
  exact bodyPost_ret (run_results_cell_tmp Tryz.results92 _ _ w.heap.size 23 (tagA l) (0, 0) _ (.bool true) rfl rfl HB.out Tryz.underlying23 rfl (by rw [tagA_size _ HL.out]; exact info_tag)) rfl ⟨rfl, hg1⟩

/-- what a tag read off leaves -/
def rdTag (l : List UInt8) (er : Int) : List UInt8 × List UInt8 × Int :=
  if er = 0 then (if 32 ≤ l.length then (l.take 32, l.drop 32, 0) else (zTag, [], 50)) else (zTag, l, er)
theorem rdTag_len (l : List UInt8) (er : Int) : (rdTag l er).1.length = 32 := by
  unfold rdTag
  split
  · split
    · rw [List.length_take]; omega
    · exact zTag_len
  · exact zTag_len

/-- a reader whose front lies in a block below S -/
def IsRB (S : Nat) (w : World) (p : Nat) (l : List UInt8) (er : Int) : Prop :=
  ∃ A c, w.heap[p]? = some (.cells #[.slice A l.length c, .bool true, .int .i64 er] 113 (0, 0)) ∧ Rd w A l ∧ l.length ≤ c ∧ c ≤ maxLen ∧ ∀ b o, A = some ⟨b, o, none⟩ → l ≠ [] → b < S

theorem IsR.below {w : World} {p : Nat} {l : List UInt8} {er : Int} (h : IsR w p l er) : IsRB w.heap.size w p l er := by
  obtain ⟨A, c, hb, hr, h3, h4⟩ := h
  refine ⟨A, c, hb, hr, h3, h4, ?_⟩
  rintro b o rfl hne
  obtain ⟨b', o', e, hlt, _⟩ := hr.at_ (List.length_pos_iff.2 hne)
  injection e with e
  injection e with e1 _
  subst e1
  exact hlt
theorem IsRB.keep {T : Nat → Prop} {S p : Nat} {w w' : World} {l : List UInt8} {er : Int} (h : IsRB S w p l er) (hg : Chg T w w') (hp : ¬ T p) (hT : ∀ b, b < S → ¬ T b) : IsRB S w' p l er := by
  obtain ⟨A, c, hb, hr, h3, h4, h5⟩ := h
  exact ⟨A, c, (hg.block p (Array.getElem?_eq_some_iff.1 hb).1 hp).trans hb, hr.keep hg (fun b o e hne => hT b (h5 b o e hne)), h3, h4, h5⟩
theorem IsRB.lt {S p : Nat} {w : World} {l : List UInt8} {er : Int} (h : IsRB S w p l er) : p < w.heap.size := by
  obtain ⟨A', c', hb, _⟩ := h; exact (Array.getElem?_eq_some_iff.1 hb).1
theorem IsRB.isR {S p : Nat} {w : World} {l : List UInt8} {er : Int} (h : IsRB S w p l er) : IsR w p l er := by
  obtain ⟨A, c, hb, hr, h3, h4, h5⟩ := h
  exact ⟨A, c, hb, hr, h3, h4⟩

set_option maxRecDepth 100000 in
set_option maxHeartbeats 2000000 in
theorem take_okB (S p n : Nat) (l : List UInt8) (w : World) (hR : IsRB S w p l 0) (hn : n ≤ l.length) :
    Calls Tryz.prog 108 #[.pointer (some ⟨p, 0, none⟩), .int .i64 n] w fun e w' => ∃ A, e = .returned (.tuple #[.slice A n n, .bool true]) ∧ Rd w' A (l.take n) ∧ IsRB S w' p (l.drop n) 0 ∧ Chg (At p) w w' := by
  have hw := rwhole_any p l 0 w hR.isR
  obtain ⟨A, c, hb, hr, hc, hm, hS⟩ := hR
  have h0 : w.cell? ⟨p, 0, none⟩ = some (.slice A l.length c) := by rw [cell_of_row _ _ _ _ _ _ hb]; rfl
  have f0 : w.frozen? ⟨p, 0, none⟩ = false := frozen_of_row _ _ _ _ _ hb
  have hne := rd_ne hb (fun x => by simp) hr
  have HB := Lib.hid hb
  have HW := Lib.hid hw
  clear hb hw
  unfold maxLen at hm
  have hd : decide ((n : Int) > l.length) = false := by simp; omega
  have hcl : ∀ (X : Option Addr) (d : Nat), (l.drop n ≠ [] → X = A.map (·.add n)) → l.length - n ≤ d → d ≤ maxLen →
      IsRB S (w.setCell ⟨p, 0, none⟩ (.slice X (l.length - n) d)) p (l.drop n) 0 ∧ Chg (At p) w (w.setCell ⟨p, 0, none⟩ (.slice X (l.length - n) d)) := by
    intro X d hX h1 h2
    obtain ⟨_, hg⟩ := take_close HB.out hr hn hc (by unfold maxLen; omega) X hX d h1 h2
    have hl : p < w.heap.size := (Array.getElem?_eq_some_iff.1 HB.out).1
    have hrd : Rd w X (l.drop n) := by
      by_cases h : l.drop n = []
      · rw [h]; exact Rd.nil _ _
      · rw [hX h]
        have h0 : 0 < l.length := by
          rcases Nat.eq_zero_or_pos l.length with h0 | h0
          · exact absurd (List.drop_of_length_le (by omega)) h
          · exact h0
        obtain ⟨b, o, rfl, _, _⟩ := hr.at_ h0
        simp only [Option.map_some, add_plain]
        exact hr.drop n
    have hXb : ∀ b o, X = some ⟨b, o, none⟩ → l.drop n ≠ [] → ∃ o', A = some ⟨b, o', none⟩ ∧ l ≠ [] := by
      intro b o e h
      rw [hX h] at e
      obtain ⟨a, ha, e'⟩ := Option.map_eq_some_iff.1 e
      have hl0 : l ≠ [] := by rintro rfl; simp at h
      obtain ⟨b', o', rfl, _, _⟩ := hr.at_ (List.length_pos_iff.2 hl0)
      injection ha with ha
      subst ha
      rw [add_plain] at e'
      injection e' with e1 e2
      subst e1
      exact ⟨_, rfl, hl0⟩
    refine ⟨⟨X, d, ?_, hrd.keep hg ?_, by rw [List.length_drop]; exact h1, h2, ?_⟩, hg⟩
    · rw [heap_setCell_same _ _ _ _ _ _ HB.out, List.length_drop]; rfl
    · intro b o e h
      obtain ⟨o', e', h'⟩ := hXb b o e h
      exact hne b o' e' h'
    · intro b o e h
      obtain ⟨o', e', h'⟩ := hXb b o e h
      exact hS b o' e' h'
  have HCl := Lib.hid hcl
  clear hcl hS
  go_enter Tryz.func108, Tryz.ntmps108
  go_wp2_with fail
  refine HW.out.mono ?_
  rintro e w' ⟨rfl, rfl⟩
  by_cases hnl : n < l.length
  · have hcn : ¬ c = n := by omega
    go_wp2
    go_ret2
    have hcl := HCl.out (A.map (·.add n)) (c - n) (fun _ => rfl) (by omega) (by unfold maxLen; omega)
    exact ⟨A, rfl, (hr.take n).keep hcl.2 (fun b o e h => hne b o e (take_ne h)), hcl⟩
  · go_wp2
    all_goals
      go_ret2
      refine ⟨A, rfl, (hr.take n).keep ?_ (fun b o e h => hne b o e (take_ne h)), HCl.out _ _ (fun h => absurd (List.drop_of_length_le (by omega)) h) (by omega) (by unfold maxLen; omega)⟩
      exact (Chg.refl (At p) _).setCell (p := ⟨p, 0, none⟩) (.inl rfl) _

theorem new_block {w W : World} {o : Obj} (hg : Chg Non (w.alloc o) W) : W.heap[w.heap.size]? = some o :=
  (hg.block _ (by simp) (fun e => e)).trans (heap_alloc_new _ _)

set_option maxRecDepth 100000 in
set_option maxHeartbeats 2000000 in
theorem fieldTag_ok (S p : Nat) (l : List UInt8) (w : World) (hR : IsRB S w p l 0) (hSw : S ≤ w.heap.size) (hn : 32 ≤ l.length) :
    Calls Tryz.prog 91 #[.pointer (some ⟨p, 0, none⟩), .int .i64 32, .func (.func 92) #[] #[]] w fun e w' => e = .returned (.agg (tagA (l.take 32))) ∧ IsRB S w' p (l.drop 32) 0 ∧ Chg (At p) w w' := by
  have hg0 : ∀ o o' : Obj, Chg Non w ((w.alloc o).alloc o') := fun o o' => ((Chg.refl _ _).alloc _).alloc _
  have HT := Lib.hid (fun o o' => take_okB S p 32 l ((w.alloc o).alloc o') (hR.keep (hg0 o o') (fun e => e) (fun _ _ e => e)) hn)
  have hlp : p < w.heap.size := hR.lt
  have hl : (l.take 32).length = 32 := by rw [List.length_take]; omega
  obtain ⟨m, hm⟩ : ∃ m, l.take 32 = m := ⟨_, rfl⟩
  rw [hm] at HT hl ⊢
  have HL := Lib.hid hl
  clear hm hl hR hg0
  go_enter Tryz.func91, Tryz.ntmps91
  go_wp2_with fail
  refine (HT.out _ _).mono ?_
  rintro e w1 ⟨A, rfl, hr, hR1, hg⟩
  go_wp2_with fail
  refine (Tag1_ok A m w1 hr HL.out).mono ?_
  rintro e w2 ⟨rfl, hg2⟩
  have hgA : Chg (At p) w w2 := (((((Chg.refl Non w).alloc _).alloc _).non_then hg).then_non hg2)
  have hb0 : w2.heap[w.heap.size]? = some (.cells (tagA zTag) 23 (0, 0)) := by
    rw [hg2.block _ (by have := hg.size; simp at this; omega) (fun e => e), hg.block _ (by simp; omega) (by unfold At; omega), Below.heap_alloc _ _ _ (by simp), heap_alloc_new]
    rfl
  have HB0 := Lib.hid hb0
  have hz2 : w.heap.size < w2.heap.size := (Array.getElem?_eq_some_iff.1 hb0).1
  clear hb0 hr
  go_wp2_with (first
    | (refine sel none (.store 23 (.tmp 10) (.tmp 24)) ?_
       refine wpList_store_rowA rfl 23 (.tmp 10) (.tmp 24) rfl w2.heap.size (tagA m) rfl rfl 23 _ (heap_alloc_new _ _) (by rw [tagA_size _ HL.out]; exact info_tag) (by rw [tagA_size _ HL.out]; rfl) (tagA_one _) ?_
       intro W hgW hbW
       have HB := Lib.hid hbW
       have HGW := Lib.hid hgW
       have hb1 : W.heap[w.heap.size]? = some (.cells (tagA zTag) 23 (0, 0)) := by
         rw [hgW.block _ (by simp; omega) (by omega), Below.heap_alloc _ _ _ hz2]
         exact HB0.out
       have HB1 := Lib.hid hb1
       clear hbW hgW hb1)
    | (refine sel none (.store 23 (.tmp 6) (.tmp 31)) ?_
       refine wpList_store_rowA rfl 23 (.tmp 6) (.tmp 31) rfl w.heap.size (tagA m) rfl rfl 23 _ HB1.out (by rw [tagA_size _ HL.out]; exact info_tag) (by rw [tagA_size _ HL.out]; rfl) (tagA_one _) ?_
       intro W2 hgW2 hbW2
       have HB2 := Lib.hid hbW2
       have HGW2 := Lib.hid hgW2
       clear hbW2 hgW2)
    | (refine sel (some 31) (.load 23 (.tmp 10)) ?_; refine wpList_load_tag rfl (.tmp 10) rfl w2.heap.size 0 rfl m (range_of_tag HB.out) HL.out ?_))
  have hgB : Chg (At p) w W2 := (((hgA.alloc _).then_new HGW.out (fun x e => by omega))).then_new HGW2.out (fun x e => by omega)
  have hR2 := fun o => (hR1.keep hg2 (fun e => e) (fun _ _ e => e)).keep ((Chg.refl Non w2).alloc o) (fun e => e) (fun _ _ e => e)
  have hR3 := (hR2 _).keep HGW.out (by omega) (fun b hb e => by omega)
  have hR4 := hR3.keep HGW2.out (by omega) (fun b hb e => by omega)
  exact bodyPost_ret (results_cell_row Tryz.results91 _ _ w.heap.size 23 _ (0, 0) _ rfl HB2.out Tryz.underlying23 rfl (by rw [tagA_size _ HL.out]; exact info_tag)) rfl ⟨rfl, hR4, hgB⟩

theorem field_zero {w w2 : World} {o : Obj} {p : Nat} (hlp : p < w.heap.size) (hg : Chg (At p) ((w.alloc (.cells (tagA zTag) 23)).alloc o) w2) :
    w2.heap[w.heap.size]? = some (.cells (tagA zTag) 23 (0, 0)) := by
  rw [hg.block _ (by simp; omega) (by unfold At; omega), Below.heap_alloc _ _ _ (by simp), heap_alloc_new]
theorem field_zero1 {w w2 : World} {o : Obj} {p : Nat} (hlp : p < w.heap.size) (hg : Chg (At p) ((w.alloc o).alloc (.cells (tagA zTag) 23)) w2) :
    w2.heap[w.heap.size + 1]? = some (.cells (tagA zTag) 23 (0, 0)) := by
  rw [hg.block _ (by simp) (by unfold At; omega), heap_alloc2_new]

set_option maxRecDepth 100000 in
set_option maxHeartbeats 2000000 in
theorem fieldTag_no (S p : Nat) (l l' : List UInt8) (er er' : Int) (w : World) (hR : IsRB S w p l er) (hSw : S ≤ w.heap.size)
    (ht : ∀ W, IsRB S W p l er → Calls Tryz.prog 108 #[.pointer (some ⟨p, 0, none⟩), .int .i64 32] W fun e w' => e = .returned (.tuple #[.slice none 0 0, .bool false]) ∧ IsRB S w' p l' er' ∧ Chg (At p) W w') :
    Calls Tryz.prog 91 #[.pointer (some ⟨p, 0, none⟩), .int .i64 32, .func (.func 92) #[] #[]] w fun e w' => e = .returned (.agg (tagA zTag)) ∧ IsRB S w' p l' er' ∧ Chg (At p) w w' := by
  have hg0 : ∀ o o' : Obj, Chg Non w ((w.alloc o).alloc o') := fun o o' => ((Chg.refl _ _).alloc _).alloc _
  have hlp : p < w.heap.size := hR.lt
  have HT := Lib.hid (fun o o' => ht ((w.alloc o).alloc o') (hR.keep (hg0 o o') (fun e => e) (fun _ _ e => e)))
  clear hR hg0 ht
  go_enter Tryz.func91, Tryz.ntmps91
  go_wp2_with fail
  refine (HT.out _ _).mono ?_
  rintro e w2 ⟨rfl, hR1, hg⟩
  have HB0 := Lib.hid (field_zero hlp hg)
  have HB1 := Lib.hid (field_zero1 hlp hg)
  have hgA : Chg (At p) w w2 := ((((Chg.refl Non w).alloc _).alloc _).non_then hg)
  go_wp2_with (first
    | (refine sel (some 19) (.load 23 (.tmp 7)) ?_; refine wpList_load_tag rfl (.tmp 7) rfl (w.heap.size + 1) 0 rfl zTag (range_of_tag HB1.out) zTag_len ?_)
    | (refine sel none (.store 23 (.tmp 6) (.tmp 19)) ?_
       refine wpList_store_rowA rfl 23 (.tmp 6) (.tmp 19) rfl w.heap.size (tagA zTag) rfl rfl 23 _ HB0.out (by rw [tagA_size _ zTag_len]; exact info_tag) rfl (tagA_one _) ?_
       intro W2 hgW2 hbW2
       have HB2 := Lib.hid hbW2
       have HGW2 := Lib.hid hgW2
       clear hbW2 hgW2))
  have hgB : Chg (At p) w W2 := hgA.then_new HGW2.out (fun x e => by omega)
  have hR4 := hR1.keep HGW2.out (by omega) (fun b hb e => by omega)
  exact bodyPost_ret (results_cell_row Tryz.results91 _ _ w.heap.size 23 _ (0, 0) _ rfl HB2.out Tryz.underlying23 rfl (by rw [tagA_size _ zTag_len]; exact info_tag)) rfl ⟨rfl, hR4, hgB⟩

theorem fieldTag_any (S p : Nat) (l : List UInt8) (er : Int) (w : World) (hR : IsRB S w p l er) (hSw : S ≤ w.heap.size) :
    Calls Tryz.prog 91 #[.pointer (some ⟨p, 0, none⟩), .int .i64 32, .func (.func 92) #[] #[]] w fun e w' => e = .returned (.agg (tagA (rdTag l er).1)) ∧ IsRB S w' p (rdTag l er).2.1 (rdTag l er).2.2 ∧ Chg (At p) w w' := by
  unfold rdTag
  by_cases he : er = 0
  · subst he
    by_cases hl : 32 ≤ l.length
    · simp only [hl, if_true]
      exact fieldTag_ok S p l w hR hSw hl
    · simp only [hl, if_true, if_false]
      refine fieldTag_no S p l [] 0 50 w hR hSw (fun W hR' => (take_short p 32 l W hR'.isR (by omega)).mono ?_)
      rintro e w' ⟨rfl, ⟨A, c, h1, h2, h3, h4⟩, hg'⟩
      exact ⟨rfl, ⟨A, c, h1, h2, h3, h4, fun _ _ _ h => absurd rfl h⟩, hg'⟩
  · simp only [he, if_false]
    refine fieldTag_no S p l l er er w hR hSw (fun W hR' => (take_broken p 32 l er W hR'.isR he).mono ?_)
    rintro e w' ⟨rfl, rfl⟩
    exact ⟨rfl, hR', Chg.refl _ _⟩

set_option maxRecDepth 100000 in
set_option maxHeartbeats 2000000 in
theorem RTag_any (p : Nat) (l : List UInt8) (er : Int) (w : World) (hR : IsR w p l er) :
    Calls Tryz.prog 54 #[.pointer (some ⟨p, 0, none⟩)] w fun e w' => e = .returned (.agg (tagA (rdTag l er).1)) ∧ IsR w' p (rdTag l er).2.1 (rdTag l er).2.2 ∧ Chg (At p) w w' := by
  have hg0 : ∀ o : Obj, Chg Non w (w.alloc o) := fun o => ((Chg.refl _ _).alloc _)
  have hlp : p < w.heap.size := hR.below.lt
  have HT := Lib.hid (fun o => fieldTag_any w.heap.size p l er (w.alloc o) (hR.below.keep (hg0 o) (fun e => e) (fun _ _ e => e)) (by simp))
  have HL := Lib.hid (rdTag_len l er)
  obtain ⟨⟨x, l', er'⟩, hq⟩ : ∃ q, rdTag l er = q := ⟨_, rfl⟩
  rw [hq] at HT HL ⊢
  simp only at HT HL ⊢
  clear hR hg0 hq
  go_enter Tryz.func54, Tryz.ntmps54
  go_wp2_with fail
  refine (HT.out _).mono ?_
  rintro e w2 ⟨rfl, hR1, hg⟩
  have hb0 : w2.heap[w.heap.size]? = some (.cells (tagA zTag) 23 (0, 0)) := by
    rw [hg.block _ (by simp) (by unfold At; omega), heap_alloc_new]
    rfl
  have HB0 := Lib.hid hb0
  have hgA : Chg (At p) w w2 := ((Chg.refl Non w).alloc _).non_then hg
  clear hb0
  go_wp2_with
    (refine sel none (.store 23 (.tmp 2) (.tmp 4)) ?_
     refine wpList_store_rowA rfl 23 (.tmp 2) (.tmp 4) rfl w.heap.size (tagA x) rfl rfl 23 _ HB0.out (by rw [tagA_size _ HL.out]; exact info_tag) (by rw [tagA_size _ HL.out]; rfl) (tagA_one _) ?_
     intro W2 hgW2 hbW2
     have HB2 := Lib.hid hbW2
     have HGW2 := Lib.hid hgW2
     clear hbW2 hgW2)
  have hgB : Chg (At p) w W2 := hgA.then_new HGW2.out (fun x e => by omega)
  have hR4 := hR1.keep HGW2.out (by omega) (fun b hb e => by omega)
  exact bodyPost_ret (results_cell_row Tryz.results54 _ _ w.heap.size 23 _ (0, 0) _ rfl HB2.out Tryz.underlying23 rfl (by rw [tagA_size _ HL.out]; exact info_tag)) rfl ⟨rfl, hR4.isR, hgB⟩
end Go.Proofs.YthhbdejagglgbaaGreat
