/- Walks of package wire, readers: Byte, Flag, Tag.
   Walks of package wire, readers: Tag. Arrays of 32 bytes.
   The document's answer for layer 1 (citadelref01): the number of a row; a tag's bytes.
   Walks of package wire, writers: Byte, Flag, Tag.
   Walks of the disk: Start, Arm; spill, fall; operate; Write, Flush, Crash.
   Storing one sector; what spills.
   Walks of the disk: all, fall$1, spill.
   Walks of the disk: fall$1, spill with it, fall, operate, Write, Flush, Crash.
   Walks of the disk: fall, operate, Write, Flush, Crash.
   Walks of the disk: Flush, Crash.
   Commit records: plain values; walks of commit.May, sector.
   Walks at a disk that nobody made: none, ready, Len, Read.
   Commit records: Get, Put at a disk that nobody made.
   The document's answer for layers 4, 5: a tag's bytes; a number's, a flag's, a tag's form.
   The document's answer for layer 2 (citadelref02): the check sum, bit by bit.
   The document's answer for layer 7 (citadelref07): a sector's frame.
   Plain laws of frames: what was sealed is opened; numbers read back. No walk.
   The document's answer for layer 7 (citadelref07): opening.
   The document's answer for layer 7 (citadelref07): opening, the walk.
   Commit records: walks of commit.sector.
   Commit records: walk of commit.read.
   Commit records: walks of Put, read.
   Two commit records compared by the program. -/
import Derived.Test.YtgmpacndjmmgjaaGreatMgCommitPlaysA
import Derived.Test.YtgmpacndjmmgjaaGreatRows
import Derived.ChangeSlices
import Derived.DeepKeys
import Derived.Laws.AppendOwnNone
import Derived.Laws.StructEq
import Derived.OpenShut
import Derived.WalkKit
import Derived.WalkLawsBesides
import Derived.WalkSpells
section
namespace Go.Proofs.YtgmpacndjmmgjaaGreat
open Go.RowKit
set_option linter.unusedVariables false

/-! ### a byte -/
set_option maxRecDepth 100000 in
set_option maxHeartbeats 2000000 in
theorem Byte1_ok (A : Option Addr) (x : UInt8) (w : World) (hr : Rd w A [x]) :
    Calls Tryz.prog 86 #[.slice A 1 1] w fun e w' => e = .returned (.tuple #[.int .u8 (x.toNat : Int), .bool true]) ∧ w = w' := by
  obtain ⟨b, o, rfl, _, hc⟩ := hr.at_ (by simp)
  have h0 : w.cell? ⟨b, o, none⟩ = some (.int .u8 (x.toNat : Int)) := hc 0 (by simp)
  clear hc hr
  go_enter Tryz.func86, Tryz.ntmps86
  go_wp2
  go_ret2
  exact ⟨rfl, rfl⟩

/-- what a byte read off leaves -/
def rdByte (l : List UInt8) (er : Int) : UInt8 × List UInt8 × Int :=
  if er = 0 then (match l with | x :: r => (x, r, 0) | [] => (0, [], 50)) else (0, l, er)

set_option maxRecDepth 100000 in
set_option maxHeartbeats 2000000 in
theorem fieldByte_any (p : Nat) (l : List UInt8) (er : Int) (w : World) (hR : IsR w p l er) :
    Calls Tryz.prog 85 #[.pointer (some ⟨p, 0, none⟩), .int .i64 1, .func (.func 86) #[] #[]] w fun e w' => e = .returned (.int .u8 ((rdByte l er).1.toNat : Int)) ∧ IsR w' p (rdByte l er).2.1 (rdByte l er).2.2 ∧ Chg (At p) w w' := by
  unfold rdByte
  by_cases he : er = 0
  · subst he
    cases l with
    | nil =>
      have HT := Lib.hid (take_short p 1 [] w hR (by simp))
      clear hR
      go_enter Tryz.func85, Tryz.ntmps85
      go_wp2_with fail
      refine HT.out.mono ?_
      rintro e w1 ⟨rfl, hR1, hg⟩
      go_wp2
      go_ret
      exact ⟨rfl, hR1, hg⟩
    | cons x r =>
      have ht := take_ok p 1 (x :: r) w hR (by simp)
      simp only [List.take_succ_cons, List.take_zero, List.drop_succ_cons, List.drop_zero] at ht
      have HT := Lib.hid ht
      clear hR ht
      go_enter Tryz.func85, Tryz.ntmps85
      go_wp2_with fail
      refine HT.out.mono ?_
      rintro e w1 ⟨A, rfl, hr, hR1, hg⟩
      go_wp2_with fail
      refine (Byte1_ok A x w1 hr).mono ?_
      rintro e w2 ⟨rfl, rfl⟩
      go_wp2
      go_ret
      exact ⟨rfl, hR1, hg⟩
  · simp only [he, if_false]
    have HT := Lib.hid (take_broken p 1 l er w hR he)
    have HR := Lib.hid hR
    clear hR he
    go_enter Tryz.func85, Tryz.ntmps85
    go_wp2_with fail
    refine HT.out.mono ?_
    rintro e w1 ⟨rfl, rfl⟩
    go_wp2
    go_ret
    exact ⟨rfl, HR.out, Chg.refl _ _⟩

set_option maxRecDepth 100000 in
set_option maxHeartbeats 2000000 in
theorem RByte_any (p : Nat) (l : List UInt8) (er : Int) (w : World) (hR : IsR w p l er) :
    Calls Tryz.prog 55 #[.pointer (some ⟨p, 0, none⟩)] w fun e w' => e = .returned (.int .u8 ((rdByte l er).1.toNat : Int)) ∧ IsR w' p (rdByte l er).2.1 (rdByte l er).2.2 ∧ Chg (At p) w w' := by
  have HF := Lib.hid (fieldByte_any p l er w hR)
  clear hR
  obtain ⟨⟨x, l', er'⟩, hq⟩ : ∃ q, rdByte l er = q := ⟨_, rfl⟩
  rw [hq] at HF ⊢
  clear hq
  go_enter Tryz.func55, Tryz.ntmps55
  go_wp2_with fail
  refine HF.out.mono ?_
  rintro e w1 ⟨rfl, hR1, hg⟩
  go_wp2
  go_ret
  exact ⟨rfl, hR1, hg⟩

/-! ### a flag -/
set_option maxRecDepth 100000 in
set_option maxHeartbeats 2000000 in
theorem Flag1_ok (A : Option Addr) (x : UInt8) (w : World) (hr : Rd w A [x]) :
    Calls Tryz.prog 88 #[.slice A 1 1] w fun e w' => e = .returned (.tuple #[.bool (decide (x = 1)), .bool (decide (x ≤ 1))]) ∧ Chg Non w w' := by
  obtain ⟨b, o, rfl, _, hc⟩ := hr.at_ (by simp)
  have h0 : w.cell? ⟨b, o, none⟩ = some (.int .u8 (x.toNat : Int)) := hc 0 (by simp)
  clear hc hr
  have e1 : ((x.toNat : Int) == 1) = decide (x = 1) := by
    rw [Bool.eq_iff_iff]
    simp only [beq_iff_eq, decide_eq_true_eq, ← UInt8.toNat_inj]
    show (x.toNat : Int) = 1 ↔ x.toNat = 1
    omega
  have e2 : decide ((x.toNat : Int) ≤ 1) = decide (x ≤ 1) := by
    rw [Bool.eq_iff_iff]
    simp only [decide_eq_true_eq, UInt8.le_iff_toNat_le]
    show (x.toNat : Int) ≤ 1 ↔ x.toNat ≤ 1
    omega
  rw [← e1, ← e2]
  clear e1 e2
  go_enter Tryz.func88, Tryz.ntmps88
  go_wp2
  go_quiet (fail)
  go_wp2
  go_ret2
  exact ⟨rfl, (Chg.refl _ _).drewN _⟩

/-- what a flag read off leaves -/
def rdFlag (l : List UInt8) (er : Int) : Bool × List UInt8 × Int :=
  if er = 0 then (match l with | x :: r => if x ≤ 1 then (decide (x = 1), r, 0) else (false, [], 50) | [] => (false, [], 50)) else (false, l, er)

set_option maxRecDepth 100000 in
set_option maxHeartbeats 2000000 in
theorem fieldFlag_any (p : Nat) (l : List UInt8) (er : Int) (w : World) (hR : IsR w p l er) :
    Calls Tryz.prog 87 #[.pointer (some ⟨p, 0, none⟩), .int .i64 1, .func (.func 88) #[] #[]] w fun e w' => e = .returned (.bool (rdFlag l er).1) ∧ IsR w' p (rdFlag l er).2.1 (rdFlag l er).2.2 ∧ Chg (At p) w w' := by
  unfold rdFlag
  by_cases he : er = 0
  · subst he
    cases l with
    | nil =>
      have HT := Lib.hid (take_short p 1 [] w hR (by simp))
      clear hR
      go_enter Tryz.func87, Tryz.ntmps87
      go_wp2_with fail
      refine HT.out.mono ?_
      rintro e w1 ⟨rfl, hR1, hg⟩
      go_wp2
      go_ret
      exact ⟨rfl, hR1, hg⟩
    | cons x r =>
      have ht := take_ok p 1 (x :: r) w hR (by simp)
      simp only [List.take_succ_cons, List.take_zero, List.drop_succ_cons, List.drop_zero] at ht
      have HT := Lib.hid ht
      clear hR ht
      simp only [if_true]
      by_cases hx : x ≤ 1
      · have hc := fun A W h => Flag1_ok A x W h
        rw [decide_eq_true hx] at hc
        have HC := Lib.hid hc
        simp only [hx, if_true]
        obtain ⟨y, hy⟩ : ∃ y, decide (x = 1) = y := ⟨_, rfl⟩
        rw [hy] at HC ⊢
        clear hc hx hy
        go_enter Tryz.func87, Tryz.ntmps87
        go_wp2_with fail
        refine HT.out.mono ?_
        rintro e w1 ⟨A, rfl, hr, hR1, hg⟩
        go_wp2_with fail
        refine (HC.out A w1 hr).mono ?_
        rintro e w2 ⟨rfl, hg2⟩
        go_wp2
        go_ret
        exact ⟨rfl, (by
          obtain ⟨A', c', hb, hr', h3, h4⟩ := hR1
          exact ⟨A', c', (hg2.block p (Array.getElem?_eq_some_iff.1 hb).1 (fun e => e)).trans hb, hr'.non hg2, h3, h4⟩), hg.then_non hg2⟩
      · have hc := fun A W h => Flag1_ok A x W h
        rw [decide_eq_false hx] at hc
        have HC := Lib.hid hc
        simp only [hx, if_false]
        obtain ⟨y, hy⟩ : ∃ y, decide (x = 1) = y := ⟨_, rfl⟩
        rw [hy] at HC
        clear hc hx hy
        go_enter Tryz.func87, Tryz.ntmps87
        go_wp2_with fail
        refine HT.out.mono ?_
        rintro e w1 ⟨A, rfl, hr, hR1, hg⟩
        go_wp2_with fail
        refine (HC.out A w1 hr).mono ?_
        rintro e w2 ⟨rfl, hg2⟩
        have hR2 : IsR w2 p r 0 := by
          obtain ⟨A', c', hb, hr', h3, h4⟩ := hR1
          exact ⟨A', c', (hg2.block p (Array.getElem?_eq_some_iff.1 hb).1 (fun e => e)).trans hb, hr'.non hg2, h3, h4⟩
        go_wp2_with fail
        refine (breaks_ok p r w2 hR2).mono ?_
        rintro e w3 ⟨rfl, hR3, hg3⟩
        go_wp2
        go_ret
        exact ⟨rfl, hR3, (hg.then_non hg2).trans_same hg3⟩
  · simp only [he, if_false]
    have HT := Lib.hid (take_broken p 1 l er w hR he)
    have HR := Lib.hid hR
    clear hR he
    go_enter Tryz.func87, Tryz.ntmps87
    go_wp2_with fail
    refine HT.out.mono ?_
    rintro e w1 ⟨rfl, rfl⟩
    go_wp2
    go_ret
    exact ⟨rfl, HR.out, Chg.refl _ _⟩

set_option maxRecDepth 100000 in
set_option maxHeartbeats 2000000 in
theorem RFlag_any (p : Nat) (l : List UInt8) (er : Int) (w : World) (hR : IsR w p l er) :
    Calls Tryz.prog 56 #[.pointer (some ⟨p, 0, none⟩)] w fun e w' => e = .returned (.bool (rdFlag l er).1) ∧ IsR w' p (rdFlag l er).2.1 (rdFlag l er).2.2 ∧ Chg (At p) w w' := by
  have HF := Lib.hid (fieldFlag_any p l er w hR)
  clear hR
  obtain ⟨⟨x, l', er'⟩, hq⟩ : ∃ q, rdFlag l er = q := ⟨_, rfl⟩
  rw [hq] at HF ⊢
  clear hq
  go_enter Tryz.func56, Tryz.ntmps56
  go_wp2_with fail
  refine HF.out.mono ?_
  rintro e w1 ⟨rfl, hR1, hg⟩
  go_wp2
  go_ret
  exact ⟨rfl, hR1, hg⟩
end Go.Proofs.YtgmpacndjmmgjaaGreat
end
section
namespace Go.Proofs.YtgmpacndjmmgjaaGreat
open Go.RowKit
set_option linter.unusedVariables false

theorem run_results_cell_tmp {P : Program} {fn : Func} {p q : Tmp} {ty : TypeId} (h : fn.results = #[.cell p ty, .tmp q]) (tmps : Array Value) (w : World) (g : Nat) (t : TypeId) (cs : Array Value) (fr : Nat × Nat) (d : TypeDesc) (v : Value)
    (hp : tmps.getD p undef = .pointer (some ⟨g, 0, none⟩)) (hv : tmps.getD q undef = v) (hg : w.heap[g]? = some (.cells cs t fr))
    (hu : P.underlying ty = some d) (hd : (match d with | .struct _ | .array _ _ => true | _ => false) = true) (hi : (P.info? ty).map (·.size) = some cs.size) :
    (results fn tmps).run P w = .ok (.tuple #[.agg cs, v]) w := by
  have hp' : tmps[p]?.getD undef = .pointer (some ⟨g, 0, none⟩) := by simpa using hp
  have hv' : tmps[q]?.getD undef = v := by simpa using hv
  simp [results, h, hp', hv', asAddr, run_loadVar_row w g t ty cs fr d hg hu hd hi]

/-- a tag's cells, behind a name -/
def tagA (l : List UInt8) : Array Value := (l.map bv).toArray
theorem tagA_size (l : List UInt8) (h : l.length = 32) : (tagA l).size = 32 := by simp [tagA, h]
theorem tagA_one (l : List UInt8) : (tagA l).all (·.oneCell') = true := secV_one l
def zTag : List UInt8 := List.replicate 32 0
theorem zTag_len : zTag.length = 32 := by simp [zTag]
theorem info_tag : (Tryz.prog.info? 32).map (·.size) = some 32 := by kernel_rfl
theorem zero_tag (w : World) : (zeroValue 32).run Tryz.prog w = .ok (.agg (tagA zTag)) w := by kernel_rfl

theorem wpList_load_tag {w : World} {ops : Array Oper} {rest : List Oper} {op : Oper} {a : Act} {Q : Exit → Act → World → Prop} (hgd : op.guard = none) (x : Operand) (ho : op.op = .load 32 x)
    (b o : Nat) (hx : a.eval x = .pointer (some ⟨b, o, none⟩)) (l : List UInt8) (hc : w.rangeAt b o (l.map bv)) (hl : l.length = 32)
    (h : wpList Tryz.prog ops Q rest (a.put op.dst (.agg (tagA l))) w) : wpList Tryz.prog ops Q (op :: rest) a w :=
  wpList_load_mid hgd 32 x ho b o hx (l.map bv) _ hc Tryz.underlying32 rfl (by rw [List.length_map, hl]; exact info_tag) h

theorem range_of_rd {w : World} {b o : Nat} {l : List UInt8} (h : Rd w (some ⟨b, o, none⟩) l) : w.rangeAt b o (l.map bv) := by
  intro j v hv
  rw [List.getElem?_map] at hv
  obtain ⟨x, hx, rfl⟩ := Option.map_eq_some_iff.1 hv
  obtain ⟨b', o', e, hc⟩ := h j x hx
  injection e with e
  injection e with e1 e2
  subst e1 e2
  exact hc
theorem range_of_tag {w : World} {g : Nat} {t : TypeId} {fr : Nat × Nat} {l : List UInt8} (h : w.heap[g]? = some (.cells (tagA l) t fr)) : w.rangeAt g 0 (l.map bv) := by
  intro j v hv
  rw [cell_of_row _ _ _ _ _ _ h, Nat.zero_add]
  simpa [tagA] using hv

set_option maxRecDepth 100000 in
set_option maxHeartbeats 2000000 in
theorem Tag1_ok (A : Option Addr) (l : List UInt8) (w : World) (hr : Rd w A l) (hl : l.length = 32) :
    Calls Tryz.prog 90 #[.slice A 32 32] w fun e w' => e = .returned (.tuple #[.agg (tagA l), .bool true]) ∧ Chg Non w w' := by
  obtain ⟨b, o, rfl, hbl, _⟩ := hr.at_ (by omega)
  have HR := Lib.hid (range_of_rd hr)
  have HL := Lib.hid hl
  clear hr hl
  go_enter Tryz.func90, Tryz.ntmps90
  obtain ⟨Z, hZ⟩ : ∃ Z, tagA zTag = Z := ⟨_, rfl⟩
  go_wp2_with (first
    | (refine sel (some 5) (.sliceToArrayPointer 32 (.tmp 4)) ?_; refine wpList_plain rfl (fun K hK => ?_); go_simp; refine hK _ _ ?_)
    | (refine sel (some 6) (.load 32 (.tmp 5)) ?_; refine wpList_load_tag rfl (.tmp 5) rfl b o rfl l (fun j v hv => ((Chg.refl Non w).alloc _).cell_some (HR.out j v hv) (fun e => e)) HL.out ?_)
    | (refine sel none (.store 32 (.tmp 2) (.tmp 6)) ?_
       refine wpList_store_rowA rfl 32 (.tmp 2) (.tmp 6) rfl w.heap.size (tagA l) rfl rfl 32 _ (heap_alloc_new _ _) (by rw [tagA_size _ HL.out]; exact info_tag) (by rw [tagA_size _ HL.out]; rfl) (tagA_one _) ?_
       intro W hgW hbW
       have HB := Lib.hid hbW
       have hg1 : Chg Non w W := ((Chg.refl Non w).alloc _).then_new hgW (fun x e => by rw [e]; exact Nat.le_refl _)
       clear hbW hgW))
  exact bodyPost_ret (run_results_cell_tmp Tryz.results90 _ _ w.heap.size 32 (tagA l) (0, 0) _ (.bool true) rfl rfl HB.out Tryz.underlying32 rfl (by rw [tagA_size _ HL.out]; exact info_tag)) rfl ⟨rfl, hg1⟩

/-- what a tag read off leaves -/
def rdTag (l : List UInt8) (er : Int) : List UInt8 × List UInt8 × Int :=
  if er = 0 then (if 32 ≤ l.length then (l.take 32, l.drop 32, 0) else (zTag, [], 50)) else (zTag, l, er)
theorem rdTag_len (l : List UInt8) (er : Int) : (rdTag l er).1.length = 32 := by
  unfold rdTag
  split
  · split
    · rw [List.length_take]; omega
    · exact zTag_len
  · exact zTag_len

/-- a reader whose front lies in a block below S -/
def IsRB (S : Nat) (w : World) (p : Nat) (l : List UInt8) (er : Int) : Prop :=
  ∃ A c, w.heap[p]? = some (.cells #[.slice A l.length c, .bool true, .int .i64 er] 109 (0, 0)) ∧ Rd w A l ∧ l.length ≤ c ∧ c ≤ maxLen ∧ ∀ b o, A = some ⟨b, o, none⟩ → l ≠ [] → b < S

theorem IsR.below {w : World} {p : Nat} {l : List UInt8} {er : Int} (h : IsR w p l er) : IsRB w.heap.size w p l er := by
  obtain ⟨A, c, hb, hr, h3, h4⟩ := h
  refine ⟨A, c, hb, hr, h3, h4, ?_⟩
  rintro b o rfl hne
  obtain ⟨b', o', e, hlt, _⟩ := hr.at_ (List.length_pos_iff.2 hne)
  injection e with e
  injection e with e1 _
  subst e1
  exact hlt
theorem IsRB.keep {T : Nat → Prop} {S p : Nat} {w w' : World} {l : List UInt8} {er : Int} (h : IsRB S w p l er) (hg : Chg T w w') (hp : ¬ T p) (hT : ∀ b, b < S → ¬ T b) : IsRB S w' p l er := by
  obtain ⟨A, c, hb, hr, h3, h4, h5⟩ := h
  exact ⟨A, c, (hg.block p (Array.getElem?_eq_some_iff.1 hb).1 hp).trans hb, hr.keep hg (fun b o e hne => hT b (h5 b o e hne)), h3, h4, h5⟩
theorem IsRB.lt {S p : Nat} {w : World} {l : List UInt8} {er : Int} (h : IsRB S w p l er) : p < w.heap.size := by
  obtain ⟨A', c', hb, _⟩ := h; exact (Array.getElem?_eq_some_iff.1 hb).1
theorem IsRB.isR {S p : Nat} {w : World} {l : List UInt8} {er : Int} (h : IsRB S w p l er) : IsR w p l er := by
  obtain ⟨A, c, hb, hr, h3, h4, h5⟩ := h
  exact ⟨A, c, hb, hr, h3, h4⟩

set_option maxRecDepth 100000 in
set_option maxHeartbeats 2000000 in
theorem take_okB (S p n : Nat) (l : List UInt8) (w : World) (hR : IsRB S w p l 0) (hn : n ≤ l.length) :
    Calls Tryz.prog 104 #[.pointer (some ⟨p, 0, none⟩), .int .i64 n] w fun e w' => ∃ A, e = .returned (.tuple #[.slice A n n, .bool true]) ∧ Rd w' A (l.take n) ∧ IsRB S w' p (l.drop n) 0 ∧ Chg (At p) w w' := by
  have hw := rwhole_any p l 0 w hR.isR
  obtain ⟨A, c, hb, hr, hc, hm, hS⟩ := hR
  have h0 : w.cell? ⟨p, 0, none⟩ = some (.slice A l.length c) := by rw [cell_of_row _ _ _ _ _ _ hb]; rfl
  have f0 : w.frozen? ⟨p, 0, none⟩ = false := frozen_of_row _ _ _ _ _ hb
  have hne := rd_ne hb (fun x => by simp) hr
  have HB := Lib.hid hb
  have HW := Lib.hid hw
  clear hb hw
  unfold maxLen at hm
  have hd : decide ((n : Int) > l.length) = false := by simp; omega
  have hcl : ∀ (X : Option Addr) (d : Nat), (l.drop n ≠ [] → X = A.map (·.add n)) → l.length - n ≤ d → d ≤ maxLen →
      IsRB S (w.setCell ⟨p, 0, none⟩ (.slice X (l.length - n) d)) p (l.drop n) 0 ∧ Chg (At p) w (w.setCell ⟨p, 0, none⟩ (.slice X (l.length - n) d)) := by
    intro X d hX h1 h2
    obtain ⟨_, hg⟩ := take_close HB.out hr hn hc (by unfold maxLen; omega) X hX d h1 h2
    have hl : p < w.heap.size := (Array.getElem?_eq_some_iff.1 HB.out).1
    have hrd : Rd w X (l.drop n) := by
      by_cases h : l.drop n = []
      · rw [h]; exact Rd.nil _ _
      · rw [hX h]
        have h0 : 0 < l.length := by
          rcases Nat.eq_zero_or_pos l.length with h0 | h0
          · exact absurd (List.drop_of_length_le (by omega)) h
          · exact h0
        obtain ⟨b, o, rfl, _, _⟩ := hr.at_ h0
        simp only [Option.map_some, add_plain]
        exact hr.drop n
    have hXb : ∀ b o, X = some ⟨b, o, none⟩ → l.drop n ≠ [] → ∃ o', A = some ⟨b, o', none⟩ ∧ l ≠ [] := by
      intro b o e h
      rw [hX h] at e
      obtain ⟨a, ha, e'⟩ := Option.map_eq_some_iff.1 e
      have hl0 : l ≠ [] := by rintro rfl; simp at h
      obtain ⟨b', o', rfl, _, _⟩ := hr.at_ (List.length_pos_iff.2 hl0)
      injection ha with ha
      subst ha
      rw [add_plain] at e'
      injection e' with e1 e2
      subst e1
      exact ⟨_, rfl, hl0⟩
    refine ⟨⟨X, d, ?_, hrd.keep hg ?_, by rw [List.length_drop]; exact h1, h2, ?_⟩, hg⟩
    · rw [heap_setCell_same _ _ _ _ _ _ HB.out, List.length_drop]; rfl
    · intro b o e h
      obtain ⟨o', e', h'⟩ := hXb b o e h
      exact hne b o' e' h'
    · intro b o e h
      obtain ⟨o', e', h'⟩ := hXb b o e h
      exact hS b o' e' h'
  have HCl := Lib.hid hcl
  clear hcl hS
  go_enter Tryz.func104, Tryz.ntmps104
  go_wp2_with fail
  refine HW.out.mono ?_
  rintro e w' ⟨rfl, rfl⟩
  by_cases hnl : n < l.length
  · have hcn : ¬ c = n := by omega
    go_wp2
    go_ret2
    have hcl := HCl.out (A.map (·.add n)) (c - n) (fun _ => rfl) (by omega) (by unfold maxLen; omega)
    exact ⟨A, rfl, (hr.take n).keep hcl.2 (fun b o e h => hne b o e (take_ne h)), hcl⟩
  · go_wp2
    all_goals
      go_ret2
      refine ⟨A, rfl, (hr.take n).keep ?_ (fun b o e h => hne b o e (take_ne h)), HCl.out _ _ (fun h => absurd (List.drop_of_length_le (by omega)) h) (by omega) (by unfold maxLen; omega)⟩
      exact (Chg.refl (At p) _).setCell (p := ⟨p, 0, none⟩) (.inl rfl) _

theorem new_block {w W : World} {o : Obj} (hg : Chg Non (w.alloc o) W) : W.heap[w.heap.size]? = some o :=
  (hg.block _ (by simp) (fun e => e)).trans (heap_alloc_new _ _)

set_option maxRecDepth 100000 in
set_option maxHeartbeats 2000000 in
theorem fieldTag_ok (S p : Nat) (l : List UInt8) (w : World) (hR : IsRB S w p l 0) (hSw : S ≤ w.heap.size) (hn : 32 ≤ l.length) :
    Calls Tryz.prog 89 #[.pointer (some ⟨p, 0, none⟩), .int .i64 32, .func (.func 90) #[] #[]] w fun e w' => e = .returned (.agg (tagA (l.take 32))) ∧ IsRB S w' p (l.drop 32) 0 ∧ Chg (At p) w w' := by
  have hg0 : ∀ o o' : Obj, Chg Non w ((w.alloc o).alloc o') := fun o o' => ((Chg.refl _ _).alloc _).alloc _
  have HT := Lib.hid (fun o o' => take_okB S p 32 l ((w.alloc o).alloc o') (hR.keep (hg0 o o') (fun e => e) (fun _ _ e => e)) hn)
  have hlp : p < w.heap.size := hR.lt
  have hl : (l.take 32).length = 32 := by rw [List.length_take]; omega
  obtain ⟨m, hm⟩ : ∃ m, l.take 32 = m := ⟨_, rfl⟩
  rw [hm] at HT hl ⊢
  have HL := Lib.hid hl
  clear hm hl hR hg0
  go_enter Tryz.func89, Tryz.ntmps89
  go_wp2_with fail
  refine (HT.out _ _).mono ?_
  rintro e w1 ⟨A, rfl, hr, hR1, hg⟩
  go_wp2_with fail
  refine (Tag1_ok A m w1 hr HL.out).mono ?_
  rintro e w2 ⟨rfl, hg2⟩
  have hgA : Chg (At p) w w2 := (((((Chg.refl Non w).alloc _).alloc _).non_then hg).then_non hg2)
  have hb0 : w2.heap[w.heap.size]? = some (.cells (tagA zTag) 32 (0, 0)) := by
    rw [hg2.block _ (by have := hg.size; simp at this; omega) (fun e => e), hg.block _ (by simp; omega) (by unfold At; omega), Below.heap_alloc _ _ _ (by simp), heap_alloc_new]
    rfl
  have HB0 := Lib.hid hb0
  have hz2 : w.heap.size < w2.heap.size := (Array.getElem?_eq_some_iff.1 hb0).1
  clear hb0 hr
  go_wp2_with (first
    | (refine sel none (.store 32 (.tmp 10) (.tmp 24)) ?_
       refine wpList_store_rowA rfl 32 (.tmp 10) (.tmp 24) rfl w2.heap.size (tagA m) rfl rfl 32 _ (heap_alloc_new _ _) (by rw [tagA_size _ HL.out]; exact info_tag) (by rw [tagA_size _ HL.out]; rfl) (tagA_one _) ?_
       intro W hgW hbW
       have HB := Lib.hid hbW
       have HGW := Lib.hid hgW
       have hb1 : W.heap[w.heap.size]? = some (.cells (tagA zTag) 32 (0, 0)) := by
         rw [hgW.block _ (by simp; omega) (by omega), Below.heap_alloc _ _ _ hz2]
         exact HB0.out
       have HB1 := Lib.hid hb1
       clear hbW hgW hb1)
    | (refine sel none (.store 32 (.tmp 6) (.tmp 31)) ?_
       refine wpList_store_rowA rfl 32 (.tmp 6) (.tmp 31) rfl w.heap.size (tagA m) rfl rfl 32 _ HB1.out (by rw [tagA_size _ HL.out]; exact info_tag) (by rw [tagA_size _ HL.out]; rfl) (tagA_one _) ?_
       intro W2 hgW2 hbW2
       have HB2 := Lib.hid hbW2
       have HGW2 := Lib.hid hgW2
       clear hbW2 hgW2)
    | (refine sel (some 31) (.load 32 (.tmp 10)) ?_; refine wpList_load_tag rfl (.tmp 10) rfl w2.heap.size 0 rfl m (range_of_tag HB.out) HL.out ?_))
  have hgB : Chg (At p) w W2 := (((hgA.alloc _).then_new HGW.out (fun x e => by omega))).then_new HGW2.out (fun x e => by omega)
  have hR2 := fun o => (hR1.keep hg2 (fun e => e) (fun _ _ e => e)).keep ((Chg.refl Non w2).alloc o) (fun e => e) (fun _ _ e => e)
  have hR3 := (hR2 _).keep HGW.out (by omega) (fun b hb e => by omega)
  have hR4 := hR3.keep HGW2.out (by omega) (fun b hb e => by omega)
  exact bodyPost_ret (results_cell_row Tryz.results89 _ _ w.heap.size 32 _ (0, 0) _ rfl HB2.out Tryz.underlying32 rfl (by rw [tagA_size _ HL.out]; exact info_tag)) rfl ⟨rfl, hR4, hgB⟩

theorem field_zero {w w2 : World} {o : Obj} {p : Nat} (hlp : p < w.heap.size) (hg : Chg (At p) ((w.alloc (.cells (tagA zTag) 32)).alloc o) w2) :
    w2.heap[w.heap.size]? = some (.cells (tagA zTag) 32 (0, 0)) := by
  rw [hg.block _ (by simp; omega) (by unfold At; omega), Below.heap_alloc _ _ _ (by simp), heap_alloc_new]
theorem field_zero1 {w w2 : World} {o : Obj} {p : Nat} (hlp : p < w.heap.size) (hg : Chg (At p) ((w.alloc o).alloc (.cells (tagA zTag) 32)) w2) :
    w2.heap[w.heap.size + 1]? = some (.cells (tagA zTag) 32 (0, 0)) := by
  rw [hg.block _ (by simp) (by unfold At; omega), heap_alloc2_new]

set_option maxRecDepth 100000 in
set_option maxHeartbeats 2000000 in
theorem fieldTag_no (S p : Nat) (l l' : List UInt8) (er er' : Int) (w : World) (hR : IsRB S w p l er) (hSw : S ≤ w.heap.size)
    (ht : ∀ W, IsRB S W p l er → Calls Tryz.prog 104 #[.pointer (some ⟨p, 0, none⟩), .int .i64 32] W fun e w' => e = .returned (.tuple #[.slice none 0 0, .bool false]) ∧ IsRB S w' p l' er' ∧ Chg (At p) W w') :
    Calls Tryz.prog 89 #[.pointer (some ⟨p, 0, none⟩), .int .i64 32, .func (.func 90) #[] #[]] w fun e w' => e = .returned (.agg (tagA zTag)) ∧ IsRB S w' p l' er' ∧ Chg (At p) w w' := by
  have hg0 : ∀ o o' : Obj, Chg Non w ((w.alloc o).alloc o') := fun o o' => ((Chg.refl _ _).alloc _).alloc _
  have hlp : p < w.heap.size := hR.lt
  have HT := Lib.hid (fun o o' => ht ((w.alloc o).alloc o') (hR.keep (hg0 o o') (fun e => e) (fun _ _ e => e)))
  clear hR hg0 ht
  go_enter Tryz.func89, Tryz.ntmps89
  go_wp2_with fail
  refine (HT.out _ _).mono ?_
  rintro e w2 ⟨rfl, hR1, hg⟩
  have HB0 := Lib.hid (field_zero hlp hg)
  have HB1 := Lib.hid (field_zero1 hlp hg)
  have hgA : Chg (At p) w w2 := ((((Chg.refl Non w).alloc _).alloc _).non_then hg)
  go_wp2_with (first
    | (refine sel (some 19) (.load 32 (.tmp 7)) ?_; refine wpList_load_tag rfl (.tmp 7) rfl (w.heap.size + 1) 0 rfl zTag (range_of_tag HB1.out) zTag_len ?_)
    | (refine sel none (.store 32 (.tmp 6) (.tmp 19)) ?_
       refine wpList_store_rowA rfl 32 (.tmp 6) (.tmp 19) rfl w.heap.size (tagA zTag) rfl rfl 32 _ HB0.out (by rw [tagA_size _ zTag_len]; exact info_tag) rfl (tagA_one _) ?_
       intro W2 hgW2 hbW2
       have HB2 := Lib.hid hbW2
       have HGW2 := Lib.hid hgW2
       clear hbW2 hgW2))
  have hgB : Chg (At p) w W2 := hgA.then_new HGW2.out (fun x e => by omega)
  have hR4 := hR1.keep HGW2.out (by omega) (fun b hb e => by omega)
  exact bodyPost_ret (results_cell_row Tryz.results89 _ _ w.heap.size 32 _ (0, 0) _ rfl HB2.out Tryz.underlying32 rfl (by rw [tagA_size _ zTag_len]; exact info_tag)) rfl ⟨rfl, hR4, hgB⟩

theorem fieldTag_any (S p : Nat) (l : List UInt8) (er : Int) (w : World) (hR : IsRB S w p l er) (hSw : S ≤ w.heap.size) :
    Calls Tryz.prog 89 #[.pointer (some ⟨p, 0, none⟩), .int .i64 32, .func (.func 90) #[] #[]] w fun e w' => e = .returned (.agg (tagA (rdTag l er).1)) ∧ IsRB S w' p (rdTag l er).2.1 (rdTag l er).2.2 ∧ Chg (At p) w w' := by
  unfold rdTag
  by_cases he : er = 0
  · subst he
    by_cases hl : 32 ≤ l.length
    · simp only [hl, if_true]
      exact fieldTag_ok S p l w hR hSw hl
    · simp only [hl, if_true, if_false]
      refine fieldTag_no S p l [] 0 50 w hR hSw (fun W hR' => (take_short p 32 l W hR'.isR (by omega)).mono ?_)
      rintro e w' ⟨rfl, ⟨A, c, h1, h2, h3, h4⟩, hg'⟩
      exact ⟨rfl, ⟨A, c, h1, h2, h3, h4, fun _ _ _ h => absurd rfl h⟩, hg'⟩
  · simp only [he, if_false]
    refine fieldTag_no S p l l er er w hR hSw (fun W hR' => (take_broken p 32 l er W hR'.isR he).mono ?_)
    rintro e w' ⟨rfl, rfl⟩
    exact ⟨rfl, hR', Chg.refl _ _⟩

set_option maxRecDepth 100000 in
set_option maxHeartbeats 2000000 in
theorem RTag_any (p : Nat) (l : List UInt8) (er : Int) (w : World) (hR : IsR w p l er) :
    Calls Tryz.prog 57 #[.pointer (some ⟨p, 0, none⟩)] w fun e w' => e = .returned (.agg (tagA (rdTag l er).1)) ∧ IsR w' p (rdTag l er).2.1 (rdTag l er).2.2 ∧ Chg (At p) w w' := by
  have hg0 : ∀ o : Obj, Chg Non w (w.alloc o) := fun o => ((Chg.refl _ _).alloc _)
  have hlp : p < w.heap.size := hR.below.lt
  have HT := Lib.hid (fun o => fieldTag_any w.heap.size p l er (w.alloc o) (hR.below.keep (hg0 o) (fun e => e) (fun _ _ e => e)) (by simp))
  have HL := Lib.hid (rdTag_len l er)
  obtain ⟨⟨x, l', er'⟩, hq⟩ : ∃ q, rdTag l er = q := ⟨_, rfl⟩
  rw [hq] at HT HL ⊢
  simp only at HT HL ⊢
  clear hR hg0 hq
  go_enter Tryz.func57, Tryz.ntmps57
  go_wp2_with fail
  refine (HT.out _).mono ?_
  rintro e w2 ⟨rfl, hR1, hg⟩
  have hb0 : w2.heap[w.heap.size]? = some (.cells (tagA zTag) 32 (0, 0)) := by
    rw [hg.block _ (by simp) (by unfold At; omega), heap_alloc_new]
    rfl
  have HB0 := Lib.hid hb0
  have hgA : Chg (At p) w w2 := ((Chg.refl Non w).alloc _).non_then hg
  clear hb0
  go_wp2_with
    (refine sel none (.store 32 (.tmp 2) (.tmp 4)) ?_
     refine wpList_store_rowA rfl 32 (.tmp 2) (.tmp 4) rfl w.heap.size (tagA x) rfl rfl 32 _ HB0.out (by rw [tagA_size _ HL.out]; exact info_tag) (by rw [tagA_size _ HL.out]; rfl) (tagA_one _) ?_
     intro W2 hgW2 hbW2
     have HB2 := Lib.hid hbW2
     have HGW2 := Lib.hid hgW2
     clear hbW2 hgW2)
  have hgB : Chg (At p) w W2 := hgA.then_new HGW2.out (fun x e => by omega)
  have hR4 := hR1.keep HGW2.out (by omega) (fun b hb e => by omega)
  exact bodyPost_ret (results_cell_row Tryz.results57 _ _ w.heap.size 32 _ (0, 0) _ rfl HB2.out Tryz.underlying32 rfl (by rw [tagA_size _ HL.out]; exact info_tag)) rfl ⟨rfl, hR4.isR, hgB⟩
end Go.Proofs.YtgmpacndjmmgjaaGreat
end
section
namespace Go.Proofs.YtgmpacndjmmgjaaGreat
open Go.RowKit
set_option linter.unusedVariables false

theorem num_foldl (l : List UInt8) (a : Nat) : l.foldl (fun a d => 256 * a + d.toNat) a = a * 256 ^ l.length + num l := by
  induction l generalizing a with
  | nil => simp [num]
  | cons x r ih =>
    unfold num
    simp only [List.foldl_cons, List.length_cons]
    rw [ih, ih (256 * 0 + x.toNat)]
    have e1 : 256 * a * 256 ^ r.length = a * 256 ^ (r.length + 1) := by rw [Nat.pow_succ, Nat.mul_comm 256 a, Nat.mul_assoc, Nat.mul_comm 256]
    have e2 : (256 * a + x.toNat) * 256 ^ r.length = 256 * a * 256 ^ r.length + x.toNat * 256 ^ r.length := Nat.add_mul _ _ _
    have e3 : (256 * 0 + x.toNat) * 256 ^ r.length = x.toNat * 256 ^ r.length := by simp
    rw [e2, e1, e3]
    unfold num
    omega
theorem num_at (x : UInt8) (r : List UInt8) : num (x :: r) = x.toNat * 256 ^ r.length + num r := by
  show (x :: r).foldl _ 0 = _
  rw [List.foldl_cons, num_foldl]
  simp
theorem num_bound (l : List UInt8) : num l < 256 ^ l.length := by
  induction l with
  | nil => simp [num]
  | cons x r ih =>
    rw [num_at, List.length_cons, Nat.pow_succ]
    have := x.toNat_lt
    have h2 : x.toNat * 256 ^ r.length ≤ 255 * 256 ^ r.length := Nat.mul_le_mul_right _ (by omega)
    omega

set_option maxRecDepth 100000 in
set_option maxHeartbeats 2000000 in
theorem rNumber (A : Option Addr) (l : List UInt8) (c : Nat) (w : World) (h : Rd w A l) (h1 : 1 ≤ l.length) (h8 : l.length ≤ 8) :
    Calls Tryz.prog 108 #[.slice A l.length c] w fun e w' => e = .returned (.tuple #[.int .u64 (num l : Int), .bool true]) ∧ w = w' := by
  have HR := Lib.hid h
  have hw0 : IntKind.i64.wrap ((l.length : Int) - 1) = (l.length : Int) - 1 := Go.IntWalk.i64_in _ (by omega)
  have hb0 : ((l.length : Int) == 0) = false := by rw [beq_eq_false_iff_ne]; omega
  have hb1 : decide (8 < (l.length : Int)) = false := by simp; omega
  clear h
  go_enter Tryz.func108, Tryz.ntmps108
  go_wp2_with fail
  go_loopw [4, 5, 6] (fun x un i wr => ∃ j : Nat, j ≤ l.length ∧ i = .int .i64 ((j : Int) - 1) ∧ x = .int .u64 (num (l.drop j) : Int) ∧ un = .int .u64 ((256 ^ (l.length - j) % 18446744073709551616 : Nat) : Int) ∧ w = wr) (fun _ _ i _ => (intOf i + 1).toNat)
  case atStart => exact ⟨l.length, Nat.le_refl _, rfl, by rw [List.drop_length]; rfl, by rw [Nat.sub_self]; rfl, rfl⟩
  case round =>
    obtain ⟨j, hj, rfl, rfl, rfl, rfl⟩ := hrel
    cases j with
    | zero =>
      rw [List.drop_zero]
      go_wp2_with fail
      go_ret2
      exact ⟨rfl, rfl⟩
    | succ j =>
      have hji : ((j + 1 : Nat) : Int) - 1 = (j : Int) := by omega
      rw [hji]
      obtain ⟨b, o, rfl, _, hcell⟩ := HR.out.at_ (by omega)
      have hk1 := hcell j (by omega)
      have hd : decide (0 ≤ (j : Int)) = true := by simp
      have hjl : j < l.length := by omega
      have hwj : IntKind.i64.wrap ((j : Int) - 1) = (j : Int) - 1 := Go.IntWalk.i64_in _ (by omega)
      clear hcell hji
      obtain ⟨X, hX⟩ : ∃ X, num (l.drop (j + 1)) = X := ⟨_, rfl⟩
      obtain ⟨U, hU⟩ : ∃ U, 256 ^ (l.length - (j + 1)) % 18446744073709551616 = U := ⟨_, rfl⟩
      rw [hX, hU]
      have HX := Lib.hid hX
      have HU := Lib.hid hU
      clear hX hU
      go_wp2_with fail
      case roundEnd =>
        have hp : 256 ^ (l.length - (j + 1)) ≤ 256 ^ 7 := Nat.pow_le_pow_right (by omega) (by omega)
        have hX := HX.out
        have hU := HU.out
        have hlt := num_bound (l.drop (j + 1))
        rw [List.length_drop, hX] at hlt
        have hb := l[j].toNat_lt
        have hm : l[j].toNat * 256 ^ (l.length - (j + 1)) ≤ 255 * 256 ^ (l.length - (j + 1)) := Nat.mul_le_mul_right _ (by omega)
        have hs : 256 ^ (l.length - j) = 256 ^ (l.length - (j + 1)) * 256 := by rw [← Nat.pow_succ]; congr 1; omega
        have hnum : num (l.drop j) = l[j].toNat * 256 ^ (l.length - (j + 1)) + X := by
          rw [List.drop_eq_getElem_cons hjl, num_at, List.length_drop, hX]
        obtain ⟨P, hP⟩ : ∃ P, 256 ^ (l.length - (j + 1)) = P := ⟨_, rfl⟩
        rw [hP] at hp hU hlt hm hs hnum
        have hUP : U = P := by rw [← hU]; exact Nat.mod_eq_of_lt (by omega)
        subst hUP
        have hu : ∀ n : Int, IntKind.u64.wrap n = n % 18446744073709551616 := fun n => by simp [IntKind.wrap, IntKind.bits, IntKind.signed]
        refine ⟨⟨j, by omega, rfl, ?_, ?_, trivial⟩, by simp [intOf]⟩
        · congr 1
          rw [hnum, hu, hu, hu]
          have e1 : (l[j].toNat : Int) % 18446744073709551616 = (l[j].toNat : Int) := by omega
          rw [e1]
          have e2 : (U : Int) * (l[j].toNat : Int) = ((l[j].toNat * U : Nat) : Int) := by rw [Nat.mul_comm]; simp
          rw [e2]
          obtain ⟨m, hmm⟩ : ∃ m, l[j].toNat * U = m := ⟨_, rfl⟩
          rw [hmm] at hm ⊢
          omega
        · congr 1
          rw [hs, hu]
          omega
end Go.Proofs.YtgmpacndjmmgjaaGreat
end
section
namespace Go.Proofs.YtgmpacndjmmgjaaGreat
open Go.RowKit
set_option linter.unusedVariables false

/-- one more piece -/
theorem add_one (B p b c : Nat) (l m : List UInt8) (A : Option Addr) (cm : Nat) (t : TypeId) (w w1 : World) (hW : IsW B w p l 0) (hg : Chg Non w w1) (hr : Rd w1 A m) (h0 : 0 < m.length) (hroom : l.length + m.length ≤ 65536) :
    Calls Tryz.prog 95 #[.pointer (some ⟨p, 0, none⟩), .slice (some ⟨w1.heap.size, 0, none⟩) 1 1] (w1.alloc (.cells #[.slice A m.length cm] t)) fun e w' => e = .returned (.pointer (some ⟨p, 0, none⟩)) ∧ IsW B w' p (l ++ m) 0 ∧ Below B w w' := by
  have hpB := hW.1
  obtain ⟨v0, hb0, _⟩ := hW.2
  have hBs : B ≤ w.heap.size := by have := (Array.getElem?_eq_some_iff.1 hb0).1; omega
  have hW1 : IsW B (w1.alloc (.cells #[.slice A m.length cm] t)) p l 0 := isW_chg hW (hg.alloc _)
  have hP1 := parts_new w1 t [(A, m, cm)] (by simpa using hr)
  have hcat : cat [(A, m, cm)] = m := by simp [cat]
  refine (add_room B p w1.heap.size 1 1 l [(A, m, cm)] _ hW1 hP1 rfl (by omega) (by rw [hcat]; omega) (by rw [hcat]; omega) (by omega)).mono ?_
  rw [hcat]
  rintro e w2 ⟨rfl, hW2, hB2⟩
  exact ⟨rfl, hW2, ((hg.alloc _).below (fun _ e => e.elim) hBs).trans hB2⟩

set_option maxRecDepth 100000 in
set_option maxHeartbeats 2000000 in
theorem WByte_room (B p : Nat) (l : List UInt8) (x : UInt8) (w : World) (hW : IsW B w p l 0) (hroom : l.length + 1 ≤ 65536) :
    Calls Tryz.prog 69 #[.pointer (some ⟨p, 0, none⟩), .int .u8 (x.toNat : Int)] w fun e w' => e = .returned (.pointer (some ⟨p, 0, none⟩)) ∧ IsW B w' p (l ++ [x]) 0 ∧ Below B w w' := by
  have hr : Rd (w.alloc (.cells #[.int .u8 (x.toNat : Int)] 5)) (some ⟨w.heap.size, 0, none⟩) [x] := (own_new w 5 #[.int .u8 (x.toNat : Int)] [x] rfl).rd
  have hA := add_one B p 0 0 l [x] (some ⟨w.heap.size, 0, none⟩) 1 35 w _ hW ((Chg.refl _ _).alloc _) hr (by simp) (by simpa using hroom)
  rw [show (w.alloc (.cells #[.int .u8 (x.toNat : Int)] 5)).heap.size = w.heap.size + 1 by simp] at hA
  have HA := Lib.hid hA
  clear hA hr hW hroom
  go_enter Tryz.func69, Tryz.ntmps69
  go_wp2_with fail
  refine HA.out.mono ?_
  rintro e w' ⟨rfl, h⟩
  go_wp2
  go_ret
  exact ⟨rfl, h⟩

/-- a flag's byte -/
def flagB (b : Bool) : UInt8 := if b then 1 else 0

set_option maxRecDepth 100000 in
set_option maxHeartbeats 2000000 in
theorem WFlag_room (B p : Nat) (l : List UInt8) (b : Bool) (w : World) (hW : IsW B w p l 0) (hroom : l.length + 1 ≤ 65536) :
    Calls Tryz.prog 70 #[.pointer (some ⟨p, 0, none⟩), .bool b] w fun e w' => e = .returned (.pointer (some ⟨p, 0, none⟩)) ∧ IsW B w' p (l ++ [flagB b]) 0 ∧ Below B w w' := by
  have HA := Lib.hid (WByte_room B p l (flagB b) w hW hroom)
  clear hW hroom
  cases b
  all_goals
    go_enter Tryz.func70, Tryz.ntmps70
    go_wp2_with fail
    refine HA.out.mono ?_
    rintro e w' ⟨rfl, h⟩
    go_wp2
    go_ret
    exact ⟨rfl, h⟩

set_option maxRecDepth 100000 in
set_option maxHeartbeats 2000000 in
theorem WTag_room (B p : Nat) (l : List UInt8) (h : List UInt8) (w : World) (hh : h.length = 32) (hW : IsW B w p l 0) (hroom : l.length + 32 ≤ 65536) :
    Calls Tryz.prog 71 #[.pointer (some ⟨p, 0, none⟩), .agg (h.map bv).toArray] w fun e w' => e = .returned (.pointer (some ⟨p, 0, none⟩)) ∧ IsW B w' p (l ++ h) 0 ∧ Below B w w' := by
  have hr : Rd (w.alloc (.cells (h.map bv).toArray 32)) (some ⟨w.heap.size, 0, none⟩) h := (own_new w 32 (h.map bv).toArray h rfl).rd
  have hA := add_one B p 0 0 l h (some ⟨w.heap.size, 0, none⟩) 32 35 w _ hW ((Chg.refl _ _).alloc _) hr (by omega) (by omega)
  rw [show (w.alloc (.cells (h.map bv).toArray 32)).heap.size = w.heap.size + 1 by simp, hh] at hA
  have HA := Lib.hid hA
  clear hA hr hW hroom
  go_enter Tryz.func71, Tryz.ntmps71
  go_wp2_with fail
  refine HA.out.mono ?_
  rintro e w' ⟨rfl, h⟩
  go_wp2
  go_ret
  exact ⟨rfl, h⟩
end Go.Proofs.YtgmpacndjmmgjaaGreat
end
section
namespace Go.Proofs.YtgmpacndjmmgjaaGreat
open Go.RowKit
set_option linter.unusedVariables false

theorem chg_field {w : World} {pd ps pm i : Nat} {v : Value} : Chg (DS pd ps pm) w (w.setCell ⟨pd, i, none⟩ v) := (Chg.refl (DS pd ps pm) _).setCell (p := ⟨pd, i, none⟩) (.inl (.inl rfl)) _

/-- a store of what stays -/
theorem IsD.setStay {w : World} {pd ps pm c1 : Nat} {D : Dk} {A1 : Option Addr} {l : List UInt8} (h : IsD w pd ps pm D) (hr : Rd w A1 l) (hne : ∀ b o, A1 = some ⟨b, o, none⟩ → l ≠ [] → b ≠ ps) (hc : l.length ≤ c1) (hm : c1 ≤ maxLen) :
    IsD (w.setCell ⟨pd, 4, none⟩ (.slice A1 l.length c1)) pd ps pm { D with stay := l } := by
  have hn := h.ne
  obtain ⟨hok, A, c, h1, h2, h3, h4, h5, h6, h7⟩ := h
  have hg : Chg (fun k => k = pd) w (w.setCell ⟨pd, 4, none⟩ (.slice A1 l.length c1)) := (Chg.refl (fun k => k = pd) _).setCell (p := ⟨pd, 4, none⟩) (.inl rfl) _
  refine ⟨⟨hok.secs, hok.keys, hok.nodup, hok.most, hok.left0⟩, A1, c1, ?_, ?_, ?_, ?_, hne, hc, hm⟩
  · rw [heap_setCell_same _ _ _ _ _ _ h1]; rfl
  · exact (hg.block ps (Array.getElem?_eq_some_iff.1 h2).1 (Ne.symm hn.1)).trans h2
  · exact h3.keep hg (Ne.symm hn.2.1)
  · exact hr.keep hg (fun b o e hne' => (stay_ne h1 h3 hr b o e hne').1)

set_option maxRecDepth 100000 in
set_option maxHeartbeats 2000000 in
theorem Start_any (pd ps pm : Nat) (D : Dk) (w : World) (h : IsD w pd ps pm D) :
    Calls Tryz.prog 25 #[.pointer (some ⟨pd, 0, none⟩)] w fun e w' => e = .returned (.int .i64 D.start.2) ∧ IsD w' pd ps pm D.start.1 ∧ Chg (DS pd ps pm) w w' := by
  obtain ⟨A, c, h0, _⟩ := h.cells
  have f0 := h.free 0
  have HN := Lib.hid (dnone_ok pd ps pm D w h)
  have HD := Lib.hid h
  unfold Dk.start
  cases hu : D.up with
  | true =>
    rw [hu] at h0
    have HU := Lib.hid hu
    clear hu h
    simp only [if_true]
    go_enter Tryz.func25, Tryz.ntmps25
    go_wp2_with fail
    refine HN.out.mono ?_
    rintro e w' ⟨rfl, rfl⟩
    go_wp2
    go_ret
    exact ⟨rfl, HD.out, Chg.refl _ _⟩
  | false =>
    rw [hu] at h0
    have HU := Lib.hid hu
    clear hu h
    simp only [Bool.false_eq_true, if_false]
    go_enter Tryz.func25, Tryz.ntmps25
    go_wp2_with fail
    refine HN.out.mono ?_
    rintro e w' ⟨rfl, rfl⟩
    go_wp2
    go_ret
    have hok := HD.out.1
    exact ⟨rfl, HD.out.set 0 (.bool true) rfl rfl rfl ⟨hok.secs, hok.keys, hok.nodup, hok.most, hok.left0⟩ (fun A c => rfl), chg_field⟩

set_option maxRecDepth 100000 in
set_option maxHeartbeats 2000000 in
theorem Arm_up (pd ps pm : Nat) (D : Dk) (n : Int) (B : Option Addr) (l : List UInt8) (cb : Nat) (w : World) (h : IsD w pd ps pm D) (hup : D.up = true) (hr : Rd w B l) (hl : l.length ≤ 1000000) (hn : 1 ≤ n) :
    Calls Tryz.prog 27 #[.pointer (some ⟨pd, 0, none⟩), .int .i64 n, .slice B l.length cb] w fun e w' => e = .returned (.int .i64 0) ∧ IsD w' pd ps pm { D with left := n, stay := l } ∧ Chg (DS pd ps pm) w w' := by
  have hrd := ready_ok pd ps pm D w h
  have hr1 : D.ready = 0 := by unfold Dk.ready; rw [hup]; rfl
  rw [hr1] at hrd
  have HR := Lib.hid hrd
  clear hrd hr1
  have HD := Lib.hid h
  have HC := Lib.hid (Clone_any B l cb w hr (by omega))
  have hlt := h.lt
  clear h hr
  go_enter Tryz.func27, Tryz.ntmps27
  go_wp2_with fail
  refine HR.out.mono ?_
  rintro e w' ⟨rfl, rfl⟩
  go_wp2_with fail
  refine HC.out.mono ?_
  rintro e w1 ⟨A1, c1, rfl, hc1, hm1, ho1, hg1⟩
  have h1 := HD.out.non hg1
  obtain ⟨A, c, _, _, _, k3, k4, _⟩ := h1.cells
  have f3 := h1.free 3
  have f4 := h1.free 4
  have H1 := Lib.hid h1
  clear h1
  go_wp2
  go_ret
  have hD := H1.out
  have hok := hD.1
  have hs1 := hD.set 3 (.int .i64 n) (D' := { D with left := n }) rfl rfl rfl ⟨hok.secs, hok.keys, hok.nodup, hok.most, by show 0 ≤ n; omega⟩ (fun A c => rfl)
  have hgs : Chg (fun k => k = pd) w1 (w1.setCell ⟨pd, 3, none⟩ (.int .i64 n)) := (Chg.refl (fun k => k = pd) _).setCell (p := ⟨pd, 3, none⟩) (.inl rfl) _
  have hge : ∀ b o, A1 = some ⟨b, o, none⟩ → l ≠ [] → w.heap.size ≤ b := by
    rintro b o rfl hne
    exact ho1.ge hne
  have hs2 := hs1.setStay (A1 := A1) (l := l) (c1 := c1) (ho1.rd.keep hgs (fun b o e hne e' => by have := hge b o e hne; omega)) (fun b o e hne e' => by have := hge b o e hne; omega) hc1 hm1
  exact ⟨rfl, hs2, (hg1.non_then chg_field).trans_same chg_field⟩

theorem arm_eq {D : Dk} {n : Int} {l : List UInt8} (hup : D.up = true) (hn : 1 ≤ n) : D.arm n l = ({ D with left := n, stay := l }, 0) := by
  unfold Dk.arm
  rw [hup]
  simp
  omega
end Go.Proofs.YtgmpacndjmmgjaaGreat
end
section
namespace Go.Proofs.YtgmpacndjmmgjaaGreat
open Go.RowKit
set_option linter.unusedVariables false

theorem setCells_block (b : Nat) : ∀ (vs : List Value) (o : Nat) (w : World) (cs : Array Value) (t : TypeId), w.heap[b]? = some (.cells cs t (0, 0)) →
    ∃ cs2, (w.setCells b o vs).heap[b]? = some (.cells cs2 t (0, 0)) ∧ cs2.size = cs.size ∧ Chg (fun k => k = b) w (w.setCells b o vs)
  | [], o, w, cs, t, h => ⟨cs, h, rfl, Chg.refl _ _⟩
  | v :: r, o, w, cs, t, h => by
    obtain ⟨cs2, h1, h2, h3⟩ := setCells_block b r (o + 1) (w.setCell ⟨b, o, none⟩ v) (cs.setIfInBounds o v) t (heap_setCell_same _ _ _ _ _ _ h)
    refine ⟨cs2, h1, by simpa using h2, ?_⟩
    exact ((Chg.refl (fun k => k = b) w).setCell (p := ⟨b, o, none⟩) (.inl rfl) v).trans_same h3

theorem flat_set {sec : List (List UInt8)} (h : ∀ s ∈ sec, s.length = 64) (k : Nat) (hk : k < sec.length) (l : List UInt8) (hl : l.length = 64) (j : Nat) :
    (sec.set k l).flatten[j]? = if k * 64 ≤ j ∧ j < k * 64 + 64 then l[j - k * 64]? else sec.flatten[j]? := by
  have h' : ∀ s ∈ sec.set k l, s.length = 64 := by
    intro s hs
    rcases List.mem_or_eq_of_mem_set hs with hs | rfl
    · exact h s hs
    · exact hl
  by_cases hj : j < sec.length * 64
  · have hq : j / 64 < sec.length := by omega
    have hjj : j = j / 64 * 64 + j % 64 := by omega
    have hm : j % 64 < 64 := by omega
    have e1 := flat_at h' (j / 64) (by simpa using hq) (j % 64) hm
    have e2 := flat_at h (j / 64) hq (j % 64) hm
    rw [← hjj] at e1 e2
    rw [e1, e2]
    by_cases hkj : k = j / 64
    · rw [if_pos (by omega)]
      have : (sec.set k l)[j / 64]'(by simpa using hq) = l := by simp [hkj]
      rw [this, show j - k * 64 = j % 64 from by omega]
    · rw [if_neg (by omega)]
      have : (sec.set k l)[j / 64]'(by simpa using hq) = sec[j / 64] := by simp [hkj]
      rw [this]
  · have e1 : (sec.set k l).flatten[j]? = none := List.getElem?_eq_none (by rw [flat_len h', List.length_set]; omega)
    have e2 : sec.flatten[j]? = none := List.getElem?_eq_none (by rw [flat_len h]; omega)
    rw [e1, e2, if_neg (by omega)]

theorem setCells_sec {w : World} {ps : Nat} {t : TypeId} {sec : List (List UInt8)} (hb : w.heap[ps]? = some (.cells (sec.flatten.map bv).toArray t (0, 0))) (h : ∀ s ∈ sec, s.length = 64) (k : Nat) (hk : k < sec.length) (l : List UInt8) (hl : l.length = 64) :
    (w.setCells ps (k * 64) (l.map bv)).heap[ps]? = some (.cells ((sec.set k l).flatten.map bv).toArray t (0, 0)) ∧ Chg (fun x => x = ps) w (w.setCells ps (k * 64) (l.map bv)) := by
  obtain ⟨cs2, h1, h2, h3⟩ := setCells_block ps (l.map bv) (k * 64) w _ t hb
  refine ⟨?_, h3⟩
  rw [h1]
  congr 2
  apply Array.ext_getElem?
  intro j
  have hc : cs2[j]? = (w.setCells ps (k * 64) (l.map bv)).cell? ⟨ps, j, none⟩ := (cell_of_row _ _ _ _ _ _ h1).symm
  have hw : w.cell? ⟨ps, j, none⟩ = (sec.flatten.map bv).toArray[j]? := cell_of_row _ _ _ _ _ _ hb
  rw [hc, List.getElem?_toArray, List.getElem?_map, flat_set h k hk l hl j]
  have hsome : ∀ j, j < (l.map bv).length → (w.cell? ⟨ps, k * 64 + j, none⟩).isSome = true := by
    intro j hj
    rw [cell_of_row _ _ _ _ _ _ hb]
    have : k * 64 + j < sec.flatten.length := by rw [flat_len h]; simp [hl] at hj; have : (k + 1) * 64 ≤ sec.length * 64 := Nat.mul_le_mul_right 64 hk; omega
    rw [List.getElem?_toArray, List.getElem?_map, List.getElem?_eq_getElem this]
    rfl
  by_cases hj : k * 64 ≤ j ∧ j < k * 64 + 64
  · rw [if_pos hj]
    obtain ⟨d, rfl⟩ : ∃ d, j = k * 64 + d := ⟨j - k * 64, by omega⟩
    have hd : d < (l.map bv).length := by simp [hl]; omega
    rw [World.cell?_setCells_in ps (l.map bv) (k * 64) w hsome d hd, Nat.add_sub_cancel_left, ← List.getElem?_map, List.getElem?_eq_getElem hd]
  · rw [if_neg hj, World.cell?_setCells_out ps (l.map bv) (k * 64) w ⟨ps, j, none⟩ (fun _ _ => by simp [hl]; omega), hw, List.getElem?_toArray, List.getElem?_map]

/-- a sector stored, in a plain list of operations: the world behind it is a letter -/
theorem wpList_store_sec {w : World} {ops : Array Oper} {rest : List Oper} {op : Oper} {a : Act} {Q : Exit → Act → World → Prop} (hgd : op.guard = none) (x y : Operand) (ho : op.op = .store 75 x y)
    (ps k : Nat) (sec : List (List UInt8)) (t : TypeId) (l : List UInt8) (hx : a.eval x = .pointer (some ⟨ps, k * 64, none⟩)) (hy : a.eval y = secV l) (hb : w.heap[ps]? = some (.cells (sec.flatten.map bv).toArray t (0, 0)))
    (h : ∀ s ∈ sec, s.length = 64) (hk : k < sec.length) (hl : l.length = 64)
    (hn : ∀ W, W.heap[ps]? = some (.cells ((sec.set k l).flatten.map bv).toArray t (0, 0)) → Chg (fun x => x = ps) w W → wpList Tryz.prog ops Q rest (a.put op.dst undef) W) : wpList Tryz.prog ops Q (op :: rest) a w := by
  refine wpList_store_mid hgd 75 x y ho ps (k * 64) (secA l) hx hy ?_ (by rw [secA_size l hl]; exact info_sec) (secA_one l) ?_
  · intro j hj
    rw [secA_size l hl] at hj
    refine ⟨?_, frozen_of_row _ _ _ _ _ hb⟩
    rw [cell_of_row _ _ _ _ _ _ hb]
    have : k * 64 + j < sec.flatten.length := by rw [flat_len h]; have : (k + 1) * 64 ≤ sec.length * 64 := Nat.mul_le_mul_right 64 hk; omega
    rw [List.getElem?_toArray, List.getElem?_map, List.getElem?_eq_getElem this]
    rfl
  · obtain ⟨h1, h2⟩ := setCells_sec hb h k hk l hl
    exact hn _ h1 h2

theorem spillTo_ok {D : Dk} (h : D.Ok) (st : Nat → Bool) : ∀ n, (D.spillTo st n).length = D.sec.length ∧ ∀ s ∈ D.spillTo st n, s.length = 64
  | 0 => ⟨rfl, h.secs⟩
  | n + 1 => by
    obtain ⟨h1, h2⟩ := spillTo_ok h st n
    unfold Dk.spillTo
    cases hk : (dirty D.cache)[n]? with
    | none => exact ⟨h1, h2⟩
    | some k =>
      by_cases hs : st n
      · simp only [hs, if_true]
        refine ⟨by rw [List.length_set, h1], fun s hm => ?_⟩
        rcases List.mem_or_eq_of_mem_set hm with hm | rfl
        · exact h2 s hm
        · have hkm : k ∈ D.cache.map (·.1) := (dirty_perm D.cache).mem_iff.1 (List.mem_of_getElem? hk)
          obtain ⟨p, hp, rfl⟩ := List.mem_map.1 hkm
          rw [look_mem h.nodup hp]
          exact (h.keys p hp).2
      · simp only [hs]
        exact ⟨h1, h2⟩

theorem dirty_look {D : Dk} (h : D.Ok) {n k : Nat} (hk : (dirty D.cache)[n]? = some k) : k < D.sec.length ∧ ∃ l, look D.cache k = some l ∧ l.length = 64 := by
  have hkm : k ∈ D.cache.map (·.1) := (dirty_perm D.cache).mem_iff.1 (List.mem_of_getElem? hk)
  obtain ⟨p, hp, rfl⟩ := List.mem_map.1 hkm
  exact ⟨(h.keys p hp).1, p.2, look_mem h.nodup hp, (h.keys p hp).2⟩

theorem cache_len {D : Dk} (h : D.Ok) : D.cache.length ≤ 1024 := by
  have h1 : (D.cache.map (·.1)).length ≤ (List.range D.sec.length).length := by
    refine List.Nodup.length_le_of_subset h.nodup ?_
    intro k hk
    obtain ⟨p, hp, rfl⟩ := List.mem_map.1 hk
    exact List.mem_range.2 (h.keys p hp).1
  rw [List.length_map, List.length_range] at h1
  have := h.most
  omega
end Go.Proofs.YtgmpacndjmmgjaaGreat
end
section
namespace Go.Proofs.YtgmpacndjmmgjaaGreat
open Go.RowKit
set_option linter.unusedVariables false

theorem IsD.setSec {w W : World} {pd ps pm : Nat} {D : Dk} (h : IsD w pd ps pm D) (sec : List (List UInt8)) (hl : sec.length = D.sec.length) (hs : ∀ s ∈ sec, s.length = 64)
    (hb : W.heap[ps]? = some (.cells (sec.flatten.map bv).toArray 75 (0, 0))) (hg : Chg (fun x => x = ps) w W) : IsD W pd ps pm { D with sec := sec } := by
  have hne := h.ne
  obtain ⟨hok, A, c, h1, h2, h3, h4, h5, h6, h7⟩ := h
  refine ⟨⟨hs, fun p hp => by show p.1 < sec.length ∧ _; rw [hl]; exact hok.keys p hp, hok.nodup, by show sec.length ≤ 1024; rw [hl]; exact hok.most, hok.left0⟩, A, c, ?_, hb, h3.keep hg (Ne.symm hne.2.2), h4.keep hg h5, h5, h6, h7⟩
  rw [hg.block pd (Array.getElem?_eq_some_iff.1 h1).1 hne.1, h1]
  simp only [dCells, hl]

theorem IsD.clearCache {w W : World} {pd ps pm : Nat} {D : Dk} (h : IsD w pd ps pm D) (hm : MapIs W pm []) (hg : Chg (fun x => x = pm) w W) : IsD W pd ps pm { D with cache := [] } := by
  have hne := h.ne
  obtain ⟨hok, A, c, h1, h2, h3, h4, h5, h6, h7⟩ := h
  refine ⟨⟨hok.secs, fun p hp => (by cases hp), List.nodup_nil, hok.most, hok.left0⟩, A, c, ?_, ?_, hm, h4.keep hg (fun b o e hne' => (stay_ne h1 h3 h4 b o e hne').2), h5, h6, h7⟩
  · exact (hg.block pd (Array.getElem?_eq_some_iff.1 h1).1 hne.2.1).trans h1
  · exact (hg.block ps (Array.getElem?_eq_some_iff.1 h2).1 hne.2.2).trans h2

set_option maxRecDepth 100000 in
set_option maxHeartbeats 2000000 in
theorem all_any (p : Value) (n : Int) (w : World) :
    Calls Tryz.prog 45 #[p, .int .i64 n] w fun e w' => e = .returned (.bool true) ∧ w = w' := by
  go_enter Tryz.func45, Tryz.ntmps45
  go_wp2
  go_ret
  exact ⟨rfl, rfl⟩

set_option maxRecDepth 100000 in
set_option maxHeartbeats 2000000 in
theorem spill_all (pd ps pm : Nat) (D : Dk) (w : World) (h : IsD w pd ps pm D) :
    Calls Tryz.prog 44 #[.pointer (some ⟨pd, 0, none⟩), .func (.func 45) #[.pointer (some ⟨pd, 0, none⟩)] #[]] w fun e w' => e = .returned (.tuple #[]) ∧ IsD w' pd ps pm (D.spill fun _ => true) ∧ Chg (DS pd ps pm) w w' := by
  have hok := h.1
  have hlt := h.lt
  have hne := h.ne
  have HD := Lib.hid h
  have hcl := cache_len hok
  have hdl := dirty_length D.cache
  -- Dirty
  have hdirty : Calls Tryz.prog 74 #[.pointer (some ⟨pd, 0, none⟩)] w fun e w' => ∃ v, e = .returned v ∧ w'.ownsRow w.heap.size 3 1 v (dirty D.cache).length ((dirty D.cache).map fun k : Nat => Value.int .i64 (k : Int)) ∧ Chg Non w w' := by
    obtain ⟨A, c, _, _, h2, _⟩ := h.cells
    have HN := Lib.hid (dnone_ok pd ps pm D w h)
    obtain ⟨_, A', c', _, _, hm, _⟩ := h
    have HS := Lib.hid (sorted_keys pm D.cache w hm (fun p hp => by have := (hok.keys p hp).1; have := hok.most; omega) hcl)
    go_enter Tryz.func74, Tryz.ntmps74
    go_wp2_with fail
    refine HN.out.mono ?_
    rintro e w' ⟨rfl, rfl⟩
    go_wp2_with fail
    refine (keys_in _ _).mono ?_
    rintro e w' ⟨rfl, rfl⟩
    go_wp2_with fail
    refine HS.out.mono ?_
    rintro e w' ⟨v, rfl, hrow, hg⟩
    go_wp2
    go_ret
    exact ⟨v, rfl, hrow, hg⟩
  have HDi := Lib.hid hdirty
  clear hdirty h
  obtain ⟨ks, hks⟩ : ∃ ks, dirty D.cache = ks := ⟨_, rfl⟩
  rw [hks] at HDi hdl
  have HK := Lib.hid hks
  clear hks
  obtain ⟨st, hst⟩ : ∃ st : Nat → Bool, (fun _ => true) = st := ⟨_, rfl⟩
  rw [hst]
  have HSt := Lib.hid hst
  clear hst
  have hnl : ks.length ≤ 1024 := by omega
  have HDl := Lib.hid hdl
  clear hdl
  go_enter Tryz.func44, Tryz.ntmps44
  go_wp2_with fail
  refine HDi.out.mono ?_
  rintro e w1 ⟨v, rfl, hrow, hg1⟩
  obtain ⟨A, cv, rfl, hkeys⟩ : ∃ A cv, v = .slice A ks.length cv ∧ ∀ n (hn : n < ks.length), ∃ g, A = some ⟨g, 0, none⟩ ∧ w.heap.size ≤ g ∧ w1.cell? ⟨g, n, none⟩ = some (.int .i64 (ks[n] : Int)) := by
    rcases hrow.2 with ⟨rfl, h0⟩ | ⟨g, cap, cur, rfl, hg, _⟩
    · exact ⟨none, 0, by rw [h0], fun n hn => absurd hn (by omega)⟩
    · refine ⟨_, cap, rfl, fun n hn => ⟨g, rfl, hg, ?_⟩⟩
      have := hrow.cells (g := g) rfl n (.int .i64 (ks[n] : Int)) (by rw [List.getElem?_map, List.getElem?_eq_getElem hn]; rfl)
      rw [add_plain, Nat.zero_add] at this
      exact this
  have HKeys := Lib.hid hkeys
  clear hkeys hrow
  go_wp2_with fail
  go_loopw [9] (fun i wr => ∃ n : Nat, n ≤ ks.length ∧ i = .int .i64 n ∧ IsD wr pd ps pm { D with sec := D.spillTo st n } ∧ Chg (DS pd ps pm) w1 wr) (fun i _ => ks.length - (intOf i).toNat)
  case atStart => exact ⟨0, Nat.zero_le _, rfl, HD.out.non hg1, Chg.refl _ _⟩
  case round =>
    obtain ⟨n, hn, rfl, hDn, hgn⟩ := hrel
    have HDn := Lib.hid hDn
    clear hDn
    by_cases hlt2 : n < ks.length
    · obtain ⟨g, rfl, hgw, hcell⟩ := HKeys.out n hlt2
      have hcell' := hgn.cell_some hcell (by rintro (e | e | e) <;> simp at e <;> omega)
      clear hcell
      have hk : (dirty D.cache)[n]? = some ks[n] := by rw [HK.out]; exact List.getElem?_eq_getElem hlt2
      obtain ⟨hkl, l, hll, hl64⟩ := dirty_look hok hk
      have hspill : D.spillTo st (n + 1) = if st n then (D.spillTo st n).set ks[n] l else D.spillTo st n := by
        show (match (dirty D.cache)[n]? with | some k => if st n then (D.spillTo st n).set k ((look D.cache k).getD []) else D.spillTo st n | none => D.spillTo st n) = _
        rw [hk]
        simp only [hll, Option.getD_some]
      obtain ⟨k, hkk⟩ : ∃ k, ks[n] = k := ⟨_, rfl⟩
      rw [hkk] at hcell' hk hkl hll hspill
      clear hkk
      have HSp := Lib.hid hspill
      have HL := Lib.hid hll
      have HL64 := Lib.hid hl64
      clear hspill hk hll hl64
      obtain ⟨wo, rfl⟩ : ∃ wo : World, wo = wr := ⟨_, rfl⟩
      have hstn : st n = true := by rw [← HSt.out]
      go_wp2_with fail
      refine (all_any _ _ _).mono ?_
      rintro e w' ⟨rfl, rfl⟩
      go_wp2_with fail
      refine wp_region_still_tail 12 (by kernel_rfl) (by kernel_rfl) ?_
      simp only [List.take_succ_cons, List.take_zero, List.drop_succ_cons, List.drop_zero]
      change wpStill _ _ wo.drew (fun a' => wpList _ _ _ _ a' wo.drew) _ _
      have hd1 : IsD wo.drew pd ps pm { D with sec := D.spillTo st n } := HDn.out.non (Chg.refl _ _).drew
      have hgd : Chg (DS pd ps pm) w1 wo.drew := hgn.drew
      generalize wo.drew = w2 at hd1 hgd ⊢
      obtain ⟨A2, c2, _, k1, k2, _⟩ := hd1.cells
      have hlk := run_lookup hd1.2.choose_spec.choose_spec.2.2.1 (fun p hp => by have := (hok.keys p hp).1; have := hok.most; omega) k (by have := hok.most; omega) w2 rfl false
      simp only [HL.out] at hlk
      have hsl : (D.spillTo st n).length = D.sec.length := (spillTo_ok hok st n).1
      simp only [hsl] at k1
      have H2 := Lib.hid hd1
      have HSL := Lib.hid hsl
      clear hd1 hsl
      repeat still_step
      refine wpStill_nil ?_
      have hok2 := spillTo_ok hok st n
      refine wpList_store_sec rfl (.tmp 28) (.tmp 27) rfl ps k (D.spillTo st n) 75 l rfl rfl H2.out.2.choose_spec.choose_spec.2.1 hok2.2 (by rw [hok2.1]; exact hkl) HL64.out ?_
      intro W hbW hgW
      have hDW : IsD W pd ps pm { D with sec := D.spillTo st (n + 1) } := by
        have e : D.spillTo st (n + 1) = (D.spillTo st n).set k l := by rw [HSp.out, if_pos hstn]
        have ok2 := spillTo_ok hok st (n + 1)
        exact H2.out.setSec (D.spillTo st (n + 1)) (by rw [ok2.1, hok2.1]) ok2.2 (by rw [e]; exact hbW) hgW
      have HDW := Lib.hid hDW
      have hgW2 : Chg (DS pd ps pm) w1 W := hgd.trans_same (hgW.mono (fun x e => .inr (.inl e)))
      clear hbW hgW hDW
      go_wp2
      go_roundw
      case rel => exact ⟨n + 1, by omega, by go_num, HDW.out, hgW2⟩
      case measure => simp [intOf]; omega
    · obtain rfl : n = ks.length := by omega
      obtain ⟨A2, c2, _, _, k2, _⟩ := HDn.out.cells
      obtain ⟨W, hrun, hmW, hgW⟩ := run_clear HDn.out.2.choose_spec.choose_spec.2.2.1
      have hDW : IsD W pd ps pm (D.spill st) := by
        have hsp : D.spill st = { D with sec := D.spillTo st ks.length, cache := [] } := by unfold Dk.spill; rw [HDl.out]
        rw [hsp]
        exact HDn.out.clearCache hmW hgW
      have HDW := Lib.hid hDW
      have hgW2 : Chg (DS pd ps pm) w W := (hg1.non_then hgn).trans_same (hgW.mono (fun x e => .inr (.inr e)))
      clear hmW hgW hDW
      go_wp2
      go_end0
      exact ⟨rfl, HDW.out, hgW2⟩
end Go.Proofs.YtgmpacndjmmgjaaGreat
end
section
namespace Go.Proofs.YtgmpacndjmmgjaaGreat
open Go.RowKit
set_option linter.unusedVariables false

set_option maxRecDepth 100000 in
set_option maxHeartbeats 2000000 in
theorem fall1_any (bx : Nat) (A : Option Addr) (l : List UInt8) (c n : Nat) (w : World) (hb : w.cell? ⟨bx, 0, none⟩ = some (.slice A l.length c)) (hr : Rd w A l) (hn : n ≤ 1024) (hl : l.length ≤ 1000000) :
    Calls Tryz.prog 75 #[.int .i64 (n : Int), .pointer (some ⟨bx, 0, none⟩)] w fun e w' => e = .returned (.bool (Dk.bit l n)) ∧ w = w' := by
  by_cases h : n / 8 < l.length
  · obtain ⟨b, o, rfl, hbl, hc⟩ := hr.at_ (by omega)
    have hcell := hc (n / 8) h
    have hgd : l.getD (n / 8) 0 = l[n / 8] := by simp [List.getD, List.getElem?_eq_getElem h]
    have hbit : Dk.bit l n = ((l[n / 8]'h).toNat / 2 ^ (n % 8) % 2 == 1) := by
      unfold Dk.bit
      rw [decide_eq_true h, hgd]
      rfl
    rw [hbit]
    clear hc hgd hbit hr
    have hx := (l[n / 8]'h).toNat_lt
    obtain ⟨x, hxx⟩ : ∃ x, (l[n / 8]'h).toNat = x := ⟨_, rfl⟩
    rw [hxx] at hcell hx ⊢
    clear hxx
    go_enter Tryz.func75, Tryz.ntmps75
    go_wp2
    go_ret
    refine ⟨?_, rfl⟩
    have e1 : ((x : Int) / 2 ^ (n % 8)) = ((x / 2 ^ (n % 8) : Nat) : Int) := by rw [Int.natCast_ediv, Int.natCast_pow]; rfl
    have e2 : x / 2 ^ (n % 8) < 256 := Nat.lt_of_le_of_lt (Nat.div_le_self _ _) hx
    have e3 := u8_and_nat (x / 2 ^ (n % 8)) 1 e2 (by omega)
    rw [nat_mask1] at e3
    have e4 : bits BinOp.and IntKind.u8 ((x : Int) / 2 ^ (n % 8)) 1 = ((x / 2 ^ (n % 8) % 2 : Nat) : Int) := by rw [e1]; exact e3
    have e5 : (bits BinOp.and IntKind.u8 ((x : Int) / 2 ^ (n % 8)) 1 == 1) = (x / 2 ^ (n % 8) % 2 == 1) := by
      rw [e4]
      by_cases hq : x / 2 ^ (n % 8) % 2 = 1
      · rw [hq]; rfl
      · rw [beq_eq_false_iff_ne.2 hq, beq_eq_false_iff_ne.2 (by omega)]
    rw [← e5]
    rfl
  · have hbit : Dk.bit l n = false := by
      unfold Dk.bit
      rw [decide_eq_false h]
      rfl
    rw [hbit]
    have hd : decide ((n : Int) / 8 < l.length) = false := by simp; omega
    go_enter Tryz.func75, Tryz.ntmps75
    go_wp2
    go_ret
    exact ⟨rfl, rfl⟩

set_option maxRecDepth 100000 in
set_option maxHeartbeats 2000000 in
theorem spill_fall (pd ps pm bx : Nat) (D : Dk) (B : Option Addr) (m : List UInt8) (cm : Nat) (w : World) (h : IsD w pd ps pm D) (hbx : w.cell? ⟨bx, 0, none⟩ = some (.slice B m.length cm)) (hBm : Rd w B m)
    (hbn : ¬ DS pd ps pm bx) (hBn : ∀ b o, B = some ⟨b, o, none⟩ → m ≠ [] → ¬ DS pd ps pm b) (hml : m.length ≤ 1000000) :
    Calls Tryz.prog 44 #[.pointer (some ⟨pd, 0, none⟩), .func (.func 75) #[] #[.pointer (some ⟨bx, 0, none⟩)]] w fun e w' => e = .returned (.tuple #[]) ∧ IsD w' pd ps pm (D.spill (Dk.bit m)) ∧ Chg (DS pd ps pm) w w' := by
  have HBx := Lib.hid hbx
  have HBm := Lib.hid hBm
  clear hbx hBm
  have hok := h.1
  have hlt := h.lt
  have hne := h.ne
  have HD := Lib.hid h
  have hcl := cache_len hok
  have hdl := dirty_length D.cache
  -- Dirty
  have hdirty : Calls Tryz.prog 74 #[.pointer (some ⟨pd, 0, none⟩)] w fun e w' => ∃ v, e = .returned v ∧ w'.ownsRow w.heap.size 3 1 v (dirty D.cache).length ((dirty D.cache).map fun k : Nat => Value.int .i64 (k : Int)) ∧ Chg Non w w' := by
    obtain ⟨A, c, _, _, h2, _⟩ := h.cells
    have HN := Lib.hid (dnone_ok pd ps pm D w h)
    obtain ⟨_, A', c', _, _, hm, _⟩ := h
    have HS := Lib.hid (sorted_keys pm D.cache w hm (fun p hp => by have := (hok.keys p hp).1; have := hok.most; omega) hcl)
    go_enter Tryz.func74, Tryz.ntmps74
    go_wp2_with fail
    refine HN.out.mono ?_
    rintro e w' ⟨rfl, rfl⟩
    go_wp2_with fail
    refine (keys_in _ _).mono ?_
    rintro e w' ⟨rfl, rfl⟩
    go_wp2_with fail
    refine HS.out.mono ?_
    rintro e w' ⟨v, rfl, hrow, hg⟩
    go_wp2
    go_ret
    exact ⟨v, rfl, hrow, hg⟩
  have HDi := Lib.hid hdirty
  clear hdirty h
  obtain ⟨ks, hks⟩ : ∃ ks, dirty D.cache = ks := ⟨_, rfl⟩
  rw [hks] at HDi hdl
  have HK := Lib.hid hks
  clear hks
  obtain ⟨st, hst⟩ : ∃ st : Nat → Bool, Dk.bit m = st := ⟨_, rfl⟩
  rw [hst]
  have HSt := Lib.hid hst
  clear hst
  have hnl : ks.length ≤ 1024 := by omega
  have HDl := Lib.hid hdl
  clear hdl
  go_enter Tryz.func44, Tryz.ntmps44
  go_wp2_with fail
  refine HDi.out.mono ?_
  rintro e w1 ⟨v, rfl, hrow, hg1⟩
  obtain ⟨A, cv, rfl, hkeys⟩ : ∃ A cv, v = .slice A ks.length cv ∧ ∀ n (hn : n < ks.length), ∃ g, A = some ⟨g, 0, none⟩ ∧ w.heap.size ≤ g ∧ w1.cell? ⟨g, n, none⟩ = some (.int .i64 (ks[n] : Int)) := by
    rcases hrow.2 with ⟨rfl, h0⟩ | ⟨g, cap, cur, rfl, hg, _⟩
    · exact ⟨none, 0, by rw [h0], fun n hn => absurd hn (by omega)⟩
    · refine ⟨_, cap, rfl, fun n hn => ⟨g, rfl, hg, ?_⟩⟩
      have := hrow.cells (g := g) rfl n (.int .i64 (ks[n] : Int)) (by rw [List.getElem?_map, List.getElem?_eq_getElem hn]; rfl)
      rw [add_plain, Nat.zero_add] at this
      exact this
  have HKeys := Lib.hid hkeys
  clear hkeys hrow
  go_wp2_with fail
  go_loopw [9] (fun i wr => ∃ n : Nat, n ≤ ks.length ∧ i = .int .i64 n ∧ IsD wr pd ps pm { D with sec := D.spillTo st n } ∧ Chg (DS pd ps pm) w1 wr) (fun i _ => ks.length - (intOf i).toNat)
  case atStart => exact ⟨0, Nat.zero_le _, rfl, HD.out.non hg1, Chg.refl _ _⟩
  case round =>
    obtain ⟨n, hn, rfl, hDn, hgn⟩ := hrel
    have HDn := Lib.hid hDn
    clear hDn
    by_cases hlt2 : n < ks.length
    · obtain ⟨g, rfl, hgw, hcell⟩ := HKeys.out n hlt2
      have hcell' := hgn.cell_some hcell (by rintro (e | e | e) <;> simp at e <;> omega)
      clear hcell
      have hk : (dirty D.cache)[n]? = some ks[n] := by rw [HK.out]; exact List.getElem?_eq_getElem hlt2
      obtain ⟨hkl, l, hll, hl64⟩ := dirty_look hok hk
      have hspill : D.spillTo st (n + 1) = if st n then (D.spillTo st n).set ks[n] l else D.spillTo st n := by
        show (match (dirty D.cache)[n]? with | some k => if st n then (D.spillTo st n).set k ((look D.cache k).getD []) else D.spillTo st n | none => D.spillTo st n) = _
        rw [hk]
        simp only [hll, Option.getD_some]
      obtain ⟨k, hkk⟩ : ∃ k, ks[n] = k := ⟨_, rfl⟩
      rw [hkk] at hcell' hk hkl hll hspill
      clear hkk
      have HSp := Lib.hid hspill
      have HL := Lib.hid hll
      have HL64 := Lib.hid hl64
      clear hspill hk hll hl64
      obtain ⟨wo, rfl⟩ : ∃ wo : World, wo = wr := ⟨_, rfl⟩
      have hbx2 : wo.cell? ⟨bx, 0, none⟩ = some (.slice B m.length cm) := (hg1.non_then hgn).cell_some HBx.out hbn
      have hBm2 : Rd wo B m := HBm.out.keep (hg1.non_then hgn) hBn
      have HF := Lib.hid (fall1_any bx B m cm n wo hbx2 hBm2 (by omega) hml)
      clear hbx2 hBm2
      rw [HSt.out] at HF
      cases hstn : st n with
      | false =>
        rw [hstn] at HF
        have HStn := Lib.hid hstn
        clear hstn
        go_wp2_with fail
        refine HF.out.mono ?_
        rintro e w' ⟨rfl, rfl⟩
        go_wp2
        have hDW : IsD wo pd ps pm { D with sec := D.spillTo st (n + 1) } := by
          have e : D.spillTo st (n + 1) = D.spillTo st n := by rw [HSp.out, if_neg (by rw [HStn.out]; simp)]
          rw [e]; exact HDn.out
        go_roundw
        case rel => exact ⟨n + 1, by omega, by go_num, hDW, hgn⟩
        case measure => simp [intOf]; omega
      | true =>
      rw [hstn] at HF
      have HStn := Lib.hid hstn
      clear hstn
      go_wp2_with fail
      refine HF.out.mono ?_
      rintro e w' ⟨rfl, rfl⟩
      go_wp2_with fail
      refine wp_region_still_tail 12 (by kernel_rfl) (by kernel_rfl) ?_
      simp only [List.take_succ_cons, List.take_zero, List.drop_succ_cons, List.drop_zero]
      change wpStill _ _ wo.drew (fun a' => wpList _ _ _ _ a' wo.drew) _ _
      have hd1 : IsD wo.drew pd ps pm { D with sec := D.spillTo st n } := HDn.out.non (Chg.refl _ _).drew
      have hgd : Chg (DS pd ps pm) w1 wo.drew := hgn.drew
      generalize wo.drew = w2 at hd1 hgd ⊢
      obtain ⟨A2, c2, _, k1, k2, _⟩ := hd1.cells
      have hlk := run_lookup hd1.2.choose_spec.choose_spec.2.2.1 (fun p hp => by have := (hok.keys p hp).1; have := hok.most; omega) k (by have := hok.most; omega) w2 rfl false
      simp only [HL.out] at hlk
      have hsl : (D.spillTo st n).length = D.sec.length := (spillTo_ok hok st n).1
      simp only [hsl] at k1
      have H2 := Lib.hid hd1
      have HSL := Lib.hid hsl
      clear hd1 hsl
      repeat still_step
      refine wpStill_nil ?_
      have hok2 := spillTo_ok hok st n
      refine wpList_store_sec rfl (.tmp 28) (.tmp 27) rfl ps k (D.spillTo st n) 75 l rfl rfl H2.out.2.choose_spec.choose_spec.2.1 hok2.2 (by rw [hok2.1]; exact hkl) HL64.out ?_
      intro W hbW hgW
      have hDW : IsD W pd ps pm { D with sec := D.spillTo st (n + 1) } := by
        have e : D.spillTo st (n + 1) = (D.spillTo st n).set k l := by rw [HSp.out, if_pos HStn.out]
        have ok2 := spillTo_ok hok st (n + 1)
        exact H2.out.setSec (D.spillTo st (n + 1)) (by rw [ok2.1, hok2.1]) ok2.2 (by rw [e]; exact hbW) hgW
      have HDW := Lib.hid hDW
      have hgW2 : Chg (DS pd ps pm) w1 W := hgd.trans_same (hgW.mono (fun x e => .inr (.inl e)))
      clear hbW hgW hDW
      go_wp2
      go_roundw
      case rel => exact ⟨n + 1, by omega, by go_num, HDW.out, hgW2⟩
      case measure => simp [intOf]; omega
    · obtain rfl : n = ks.length := by omega
      obtain ⟨A2, c2, _, _, k2, _⟩ := HDn.out.cells
      obtain ⟨W, hrun, hmW, hgW⟩ := run_clear HDn.out.2.choose_spec.choose_spec.2.2.1
      have hDW : IsD W pd ps pm (D.spill st) := by
        have hsp : D.spill st = { D with sec := D.spillTo st ks.length, cache := [] } := by unfold Dk.spill; rw [HDl.out]
        rw [hsp]
        exact HDn.out.clearCache hmW hgW
      have HDW := Lib.hid hDW
      have hgW2 : Chg (DS pd ps pm) w W := (hg1.non_then hgn).trans_same (hgW.mono (fun x e => .inr (.inr e)))
      clear hmW hgW hDW
      go_wp2
      go_end0
      exact ⟨rfl, HDW.out, hgW2⟩
end Go.Proofs.YtgmpacndjmmgjaaGreat
end
section
namespace Go.Proofs.YtgmpacndjmmgjaaGreat
open Go.RowKit
set_option linter.unusedVariables false

set_option maxRecDepth 100000 in
set_option maxHeartbeats 2000000 in
theorem fall_any (pd ps pm : Nat) (D : Dk) (B : Option Addr) (m : List UInt8) (cm : Nat) (w : World) (h : IsD w pd ps pm D) (hBm : Rd w B m) (hBn : ∀ b o, B = some ⟨b, o, none⟩ → m ≠ [] → ¬ DS pd ps pm b) (hml : m.length ≤ 1000000) :
    Calls Tryz.prog 46 #[.pointer (some ⟨pd, 0, none⟩), .slice B m.length cm] w fun e w' => e = .returned (.tuple #[]) ∧ IsD w' pd ps pm (D.fall m) ∧ Chg (DS pd ps pm) w w' := by
  have hlt := h.lt
  have HSp := Lib.hid (spill_fall pd ps pm w.heap.size D B m cm (w.alloc (.cells #[.slice B m.length cm] 35)) (h.non ((Chg.refl _ _).alloc _)) (by simp only [World.cell?]; rw [heap_alloc_new]; rfl) (hBm.non ((Chg.refl _ _).alloc _))
    (by rintro (e | e | e) <;> omega) hBn hml)
  clear h hBm
  go_enter Tryz.func46, Tryz.ntmps46
  go_wp2_with fail
  refine HSp.out.mono ?_
  rintro e w1 ⟨rfl, h1, hg1⟩
  obtain ⟨A, c, k0, _, _, k3, k4, _⟩ := h1.cells
  have f0 := h1.free 0
  have f3 := h1.free 3
  have f4 := h1.free 4
  have H1 := Lib.hid h1
  clear h1
  go_wp2
  go_end0
  have hD := H1.out
  have hok := hD.1
  have s1 := hD.set 0 (.bool false) (D' := { D.spill (Dk.bit m) with up := false }) rfl rfl rfl ⟨hok.secs, hok.keys, hok.nodup, hok.most, hok.left0⟩ (fun A c => rfl)
  have s2 := s1.set 3 (.int .i64 0) (D' := { D.spill (Dk.bit m) with up := false, left := 0 }) rfl rfl rfl ⟨hok.secs, hok.keys, hok.nodup, hok.most, Int.le_refl _⟩ (fun A c => rfl)
  have s3 := s2.setStay (A1 := none) (l := []) (c1 := 0) (Rd.nil _ _) (fun b o e => by cases e) (Nat.le_refl _) (by simp)
  exact ⟨rfl, s3, (((((Chg.refl Non w).alloc _).non_then hg1).trans_same chg_field).trans_same chg_field).trans_same chg_field⟩

theorem stay_out {w : World} {pd ps pm : Nat} {D : Dk} (h : IsD w pd ps pm D) : ∃ A c, w.cell? ⟨pd, 4, none⟩ = some (.slice A D.stay.length c) ∧ Rd w A D.stay ∧ ∀ b o, A = some ⟨b, o, none⟩ → D.stay ≠ [] → ¬ DS pd ps pm b := by
  obtain ⟨hok, A, c, h1, h2, h3, h4, h5, h6, h7⟩ := h
  refine ⟨A, c, by rw [cell_of_row _ _ _ _ _ _ h1]; rfl, h4, ?_⟩
  intro b o e hne
  have := stay_ne h1 h3 h4 b o e hne
  rintro (e' | e' | e')
  · exact this.1 e'
  · exact h5 b o e hne e'
  · exact this.2 e'

set_option maxRecDepth 100000 in
set_option maxHeartbeats 2000000 in
theorem operate_falls (pd ps pm : Nat) (D : Dk) (fv : Value) (w : World) (h : IsD w pd ps pm D) (hl : D.left = 1) (hml : D.stay.length ≤ 1000000) :
    Calls Tryz.prog 40 #[.pointer (some ⟨pd, 0, none⟩), fv] w fun e w' => e = .returned (.int .i64 60) ∧ IsD w' pd ps pm (D.fall D.stay) ∧ Chg (DS pd ps pm) w w' := by
  obtain ⟨A, c, k4, hrd, hst⟩ := stay_out h
  obtain ⟨_, _, _, _, _, k3, _⟩ := h.cells
  rw [hl] at k3
  have HF := Lib.hid (fall_any pd ps pm D A D.stay c w h hrd hst hml)
  clear h hrd hst hl
  go_enter Tryz.func40, Tryz.ntmps40
  go_wp2_with fail
  refine HF.out.mono ?_
  rintro e w1 ⟨rfl, h1, hg1⟩
  go_wp2
  go_ret
  exact ⟨rfl, h1, hg1⟩

theorem wpStill_load_sec {w : World} {ops : Array Oper} {rest : List Oper} {op : Oper} {a : Act} {Q : Act → Prop} (hgd : op.guard = none) (x : Operand) (ho : op.op = .load 75 x)
    (b o : Nat) (hx : a.eval x = .pointer (some ⟨b, o, none⟩)) (l : List UInt8) (hc : w.rangeAt b o (l.map bv)) (hl : l.length = 64)
    (h : wpStill Tryz.prog ops w Q rest (a.put op.dst (.agg (secA l)))) : wpStill Tryz.prog ops w Q (op :: rest) a := by
  refine wpStill_step (fun K hK => ?_)
  have hw : Region.wanted op (yielded ops a.tmps) = true := by simp [Region.wanted, hgd]
  rw [if_pos hw]
  have hrun := run_loadVar_mid (P := Tryz.prog) w b o 75 (l.map bv) _ hc Tryz.underlying75 rfl (by rw [List.length_map, hl]; exact info_sec)
  unfold Oper.still execOp
  simp only [ho, hx, Instr.loadAt, Instr.sureAddr, Sem.run_bind, Sem.run_pure, Result.andThen_ok, hrun]
  exact ⟨rfl, hK _ h⟩

theorem upd_ok {m : List (Nat × List UInt8)} {i N : Nat} {l : List UInt8} (hn : (m.map (·.1)).Nodup) (hk : ∀ p ∈ m, p.1 < N ∧ p.2.length = 64) (hi : i < N) (hl : l.length = 64) :
    ((upd m i l).map (·.1)).Nodup ∧ ∀ p ∈ upd m i l, p.1 < N ∧ p.2.length = 64 := by
  by_cases hx : ∃ p ∈ m, p.1 = i
  · obtain ⟨p, hp, rfl⟩ := hx
    obtain ⟨j, hj⟩ := List.getElem?_of_mem hp
    rw [upd_some hn hj rfl]
    refine ⟨?_, ?_⟩
    · have : (m.set j (p.1, l)).map (·.1) = m.map (·.1) := by
        apply List.ext_getElem?
        intro k
        rw [List.getElem?_map, List.getElem?_map, List.getElem?_set]
        by_cases hkj : j = k
        · subst hkj
          have hjl : j < m.length := (List.getElem?_eq_some_iff.1 hj).1
          obtain ⟨_, hmj⟩ := List.getElem?_eq_some_iff.1 hj
          simp [hjl, hmj]
        · simp [hkj]
      rw [this]; exact hn
    · intro q hq
      rcases List.mem_or_eq_of_mem_set hq with hq | rfl
      · exact hk q hq
      · exact ⟨hi, hl⟩
  · have hx' : ∀ p ∈ m, p.1 ≠ i := fun p hp e => hx ⟨p, hp, e⟩
    rw [upd_none hx']
    refine ⟨?_, ?_⟩
    · rw [List.map_append]
      refine List.nodup_append.2 ⟨hn, by simp, ?_⟩
      rintro a ha b hb rfl
      simp only [List.map_cons, List.map_nil, List.mem_singleton] at hb
      obtain ⟨p, hp, rfl⟩ := List.mem_map.1 ha
      exact hx' p hp hb
    · intro q hq
      rcases List.mem_append.1 hq with hq | hq
      · exact hk q hq
      · rw [List.mem_singleton.1 hq]; exact ⟨hi, hl⟩

theorem IsD.setCache {w W : World} {pd ps pm : Nat} {D : Dk} (h : IsD w pd ps pm D) (i : Nat) (hi : i < D.sec.length) (l : List UInt8) (hl : l.length = 64) (hm : MapIs W pm (upd D.cache i l)) (hg : Chg (fun x => x = pm) w W) : IsD W pd ps pm { D with cache := upd D.cache i l } := by
  have hne := h.ne
  obtain ⟨hok, A, c, h1, h2, h3, h4, h5, h6, h7⟩ := h
  have hu := upd_ok hok.nodup hok.keys hi hl
  refine ⟨⟨hok.secs, hu.2, hu.1, hok.most, hok.left0⟩, A, c, ?_, ?_, hm, h4.keep hg (fun b o e hne' => (stay_ne h1 h3 h4 b o e hne').2), h5, h6, h7⟩
  · exact (hg.block pd (Array.getElem?_eq_some_iff.1 h1).1 hne.2.1).trans h1
  · exact (hg.block ps (Array.getElem?_eq_some_iff.1 h2).1 hne.2.2).trans h2

set_option maxRecDepth 100000 in
set_option maxHeartbeats 2000000 in
theorem Write1_any (pd ps pm p3 p4 p5 i c : Nat) (D : Dk) (B : Option Addr) (l : List UInt8) (w : World) (h : IsD w pd ps pm D) (h3 : w.cell? ⟨p3, 0, none⟩ = some (.pointer (some ⟨pd, 0, none⟩))) (h4 : w.cell? ⟨p4, 0, none⟩ = some (.int .i64 (i : Int)))
    (h5 : w.cell? ⟨p5, 0, none⟩ = some (.slice B 64 c)) (hr : Rd w B l) (hl : l.length = 64) (hi : i < D.sec.length) :
    Calls Tryz.prog 41 #[.pointer (some ⟨p5, 0, none⟩), .pointer (some ⟨p3, 0, none⟩), .pointer (some ⟨p4, 0, none⟩)] w fun e w' => e = .returned (.tuple #[]) ∧ IsD w' pd ps pm { D with cache := upd D.cache i l } ∧ Chg (DS pd ps pm) w w' := by
  have hok := h.1
  obtain ⟨b, o, rfl, hbl, hcell⟩ := hr.at_ (by omega)
  have hrg : w.rangeAt b o (l.map bv) := by
    intro j v hv
    rw [List.getElem?_map] at hv
    obtain ⟨x, hx, rfl⟩ := Option.map_eq_some_iff.1 hv
    obtain ⟨hj, rfl⟩ := List.getElem?_eq_some_iff.1 hx
    exact hcell j hj
  have HL := Lib.hid hl
  clear hcell hl hr
  have hd1 : IsD w.drew pd ps pm D := h.non (Chg.refl _ _).drew
  have k3 : w.drew.cell? ⟨p3, 0, none⟩ = some (.pointer (some ⟨pd, 0, none⟩)) := h3
  have k4 : w.drew.cell? ⟨p4, 0, none⟩ = some (.int .i64 (i : Int)) := h4
  have k5 : w.drew.cell? ⟨p5, 0, none⟩ = some (.slice (some ⟨b, o, none⟩) 64 c) := h5
  have hrg' : w.drew.rangeAt b o (l.map bv) := hrg
  have hgd : Chg (DS pd ps pm) w w.drew := (Chg.refl _ _).drew
  clear h h3 h4 h5 hrg
  go_enter Tryz.func41, Tryz.ntmps41
  go_wp2_with fail
  refine wp_region_still_tail 8 (by kernel_rfl) (by kernel_rfl) ?_
  simp only [List.take_succ_cons, List.take_zero, List.drop_succ_cons, List.drop_zero]
  change wpStill _ _ w.drew (fun a' => wpList _ _ _ _ a' w.drew) _ _
  generalize w.drew = w2 at hd1 k3 k4 k5 hrg' hgd ⊢
  obtain ⟨A2, c2, _, _, k2, _⟩ := hd1.cells
  obtain ⟨W, hrun, hmW, hgW⟩ := run_update hd1.2.choose_spec.choose_spec.2.2.1 (fun p hp => by have := (hok.keys p hp).1; have := hok.most; omega) i (by have := hok.most; omega) l
  replace hrun : (Instr.mapUpdate 57 (.map (some pm)) (.int .i64 (i : Int)) (.agg (secA l))).run Tryz.prog w2 = .ok () W := hrun
  have HDW := Lib.hid (hd1.setCache i hi l HL.out hmW hgW)
  have HRg := Lib.hid hrg'
  have hgW2 : Chg (DS pd ps pm) w W := hgd.trans_same (hgW.mono (fun x e => .inr (.inr e)))
  clear hmW hgW hd1 hrg'
  have harr : (Instr.arrayAt 75 (.slice (some ⟨b, o, none⟩) 64 c)).run Tryz.prog w2 = .ok (.pointer (some ⟨b, o, none⟩)) w2 := run_arrayAt w2 _ _ 64 _ 64 c Tryz.underlying75 (Nat.le_refl _)
  iterate 7 still_step
  refine wpStill_load_sec rfl (.tmp 9) rfl b o rfl l HRg.out HL.out ?_
  refine wpStill_nil ?_
  go_wp2
  go_end0
  exact ⟨rfl, HDW.out, hgW2⟩

theorem IsD.left_set {w : World} {pd ps pm : Nat} {D : Dk} (h : IsD w pd ps pm D) (n : Int) (hn : 0 ≤ n) : IsD (w.setCell ⟨pd, 3, none⟩ (.int .i64 n)) pd ps pm { D with left := n } := by
  have hok := h.1
  exact h.set 3 (.int .i64 n) (D' := { D with left := n }) rfl rfl rfl ⟨hok.secs, hok.keys, hok.nodup, hok.most, hn⟩ (fun A c => rfl)

set_option maxRecDepth 100000 in
set_option maxHeartbeats 2000000 in
/-- operate, where it does not crash; Q: what the operation makes -/
theorem operate_goes (pd ps pm : Nat) (D D2 : Dk) (f : FuncId) (cap : Array Value) (w : World) (h : IsD w pd ps pm D) (hl : D.left ≠ 1) (hlm : D.left ≤ 9223372036854775807)
    (fv : Value) (hfv : fv = .func (.func 41) #[] cap ∧ f = 41 ∨ fv = .func (.func 43) #[] cap ∧ f = 43)
    (hdo : ∀ W, IsD W pd ps pm { D with left := max (D.left - 1) 0 } → Chg (fun k => k = pd) w W → Calls Tryz.prog f cap W fun e w' => e = .returned (.tuple #[]) ∧ IsD w' pd ps pm D2 ∧ Chg (DS pd ps pm) W w') :
    Calls Tryz.prog 40 #[.pointer (some ⟨pd, 0, none⟩), fv] w fun e w' => e = .returned (.int .i64 0) ∧ IsD w' pd ps pm D2 ∧ Chg (DS pd ps pm) w w' := by
  obtain ⟨_, _, _, _, _, k3, _⟩ := h.cells
  have f3 := h.free 3
  have h0 := h.1.left0
  have hL := Lib.hid (hdo _ (h.left_set (max (D.left - 1) 0) (by omega)) ((Chg.refl (fun k => k = pd) _).setCell (p := ⟨pd, 3, none⟩) (.inl rfl) _))
  clear hdo h
  obtain ⟨n, hn⟩ : ∃ n, D.left = n := ⟨_, rfl⟩
  rw [hn] at hl hlm k3 h0 hL
  clear hn
  have hd : (n == 1) = false := by simpa using hl
  have hmx : max (n - 1) 0 = max (n - 1) 0 := rfl
  rcases hfv with ⟨rfl, rfl⟩ | ⟨rfl, rfl⟩
  all_goals
    go_enter Tryz.func40, Tryz.ntmps40
    go_wp2_with fail
    refine hL.out.mono ?_
    rintro e w1 ⟨rfl, h1, hg⟩
    go_wp2
    go_ret
    exact ⟨rfl, h1, chg_field.trans_same hg⟩

/-- sizes that a disk keeps to -/
structure Dk.Sz (D : Dk) : Prop where
  stay : D.stay.length ≤ 1000000
  left : D.left ≤ 9223372036854775807

set_option maxRecDepth 100000 in
set_option maxHeartbeats 2000000 in
theorem Write_any (pd ps pm : Nat) (D : Dk) (i : Int) (B : Option Addr) (l : List UInt8) (c : Nat) (w : World) (h : IsD w pd ps pm D) (hsz : D.Sz) (hr : Rd w B l) (hBn : ∀ b o, B = some ⟨b, o, none⟩ → l ≠ [] → b ≠ pd) :
    Calls Tryz.prog 19 #[.pointer (some ⟨pd, 0, none⟩), .int .i64 i, .slice B l.length c] w fun e w' => e = .returned (.int .i64 (D.write i l).2) ∧ IsD w' pd ps pm (D.write i l).1 ∧ Chg (DS pd ps pm) w w' := by
  have hlt := h.lt
  -- the boxes
  have hb0 : ∀ o o' : Obj, (((w.alloc (.cells #[.pointer (some ⟨pd, 0, none⟩)] 24)).alloc o).alloc o').heap[w.heap.size]? = some (.cells #[.pointer (some ⟨pd, 0, none⟩)] 24 (0, 0)) := fun o o' => by
    rw [Below.heap_alloc _ o' _ (by simp; omega)]; exact heap_alloc2_old w _ o
  obtain ⟨W0, hW0⟩ : ∃ W0, ((w.alloc (.cells #[.pointer (some ⟨pd, 0, none⟩)] 24)).alloc (.cells #[.int .i64 i] 3)).alloc (.cells #[.slice B l.length c] 35) = W0 := ⟨_, rfl⟩
  have hg0 : Chg Non w W0 := by rw [← hW0]; exact (((Chg.refl _ _).alloc _).alloc _).alloc _
  have hs0 : W0.heap.size = w.heap.size + 3 := by rw [← hW0]; simp
  have x0 : W0.cell? ⟨w.heap.size, 0, none⟩ = some (.pointer (some ⟨pd, 0, none⟩)) := by rw [← hW0, cell_of_row _ _ _ _ _ _ (hb0 _ _)]; rfl
  have x1 : W0.cell? ⟨w.heap.size + 1, 0, none⟩ = some (.int .i64 i) := by
    rw [← hW0, cell_of_row _ _ _ #[.int .i64 i] 3 (0, 0) (by rw [Below.heap_alloc _ _ _ (by simp)]; exact heap_alloc2_new w _ _)]; rfl
  have x2 : W0.cell? ⟨w.heap.size + 1 + 1, 0, none⟩ = some (.slice B l.length c) := by
    rw [← hW0, cell_of_row _ _ _ #[.slice B l.length c] 35 (0, 0) (by
      have := heap_alloc_new ((w.alloc (.cells #[.pointer (some ⟨pd, 0, none⟩)] 24)).alloc (.cells #[.int .i64 i] 3)) (.cells #[.slice B l.length c] 35)
      simpa using this)]
    rfl
  have h0 := h.non hg0
  have hr0 := hr.non hg0
  have hrd := ready_ok pd ps pm D W0 h0
  have hhas := has_ok pd ps pm D i W0 h0
  have HW0 := Lib.hid hW0
  clear hW0 hb0 h hr
  unfold Dk.write
  cases hup : D.up with
  | false =>
    have hr1 : D.ready = 60 := by unfold Dk.ready; rw [hup]; rfl
    rw [hr1] at hrd
    have HR := Lib.hid hrd
    have H0 := Lib.hid h0
    clear hrd hhas hr1 h0 hup
    simp only [if_true]
    go_enter Tryz.func19, Tryz.ntmps19
    go_wp2_with fail
    rw [HW0.out]
    refine HR.out.mono ?_
    rintro e w' ⟨rfl, rfl⟩
    go_wp2
    go_ret
    exact ⟨rfl, H0.out, hg0.of_non⟩
  | true =>
    have hr1 : D.ready = 0 := by unfold Dk.ready; rw [hup]; rfl
    rw [hr1] at hrd
    have HR := Lib.hid hrd
    have H0 := Lib.hid h0
    clear hrd hr1 h0 hup
    simp only [Bool.true_eq_false, if_false]
    by_cases hin : 0 ≤ i ∧ i < D.sec.length
    · rw [decide_eq_true hin] at hhas
      have HH := Lib.hid hhas
      simp only [hin, and_self, not_true_eq_false, if_false]
      clear hhas
      by_cases h64 : l.length = 64
      · rw [if_neg (show ¬ l.length ≠ 64 from fun h => h h64)]
        have hl64 : ((l.length : Int) != 64) = false := by simp; omega
        obtain ⟨k, rfl⟩ : ∃ k : Nat, i = k := ⟨i.toNat, by omega⟩
        have hk : k < D.sec.length := by omega
        simp only [Int.toNat_natCast]
        have H64 := Lib.hid h64
        clear h64 hin
        unfold Dk.operate
        by_cases hle : D.left = 1
        · simp only [hle, if_true]
          have HO := Lib.hid (fun fv => operate_falls pd ps pm D fv W0 H0.out hle hsz.stay)
          clear hle
          go_enter Tryz.func19, Tryz.ntmps19
          go_wp2_with fail
          rw [HW0.out]
          refine HR.out.mono ?_
          rintro e w' ⟨rfl, rfl⟩
          go_wp2_with fail
          refine HH.out.mono ?_
          rintro e w' ⟨rfl, rfl⟩
          go_wp2_with fail
          refine (HO.out _).mono ?_
          rintro e w1 ⟨rfl, h1, hg1⟩
          go_wp2
          go_ret
          exact ⟨rfl, h1, hg0.non_then hg1⟩
        · simp only [hle, if_false]
          have HO := Lib.hid (operate_goes pd ps pm D { D with left := max (D.left - 1) 0, cache := upd D.cache k l } 41 #[.pointer (some ⟨w.heap.size + 1 + 1, 0, none⟩), .pointer (some ⟨w.heap.size, 0, none⟩), .pointer (some ⟨w.heap.size + 1, 0, none⟩)] W0 H0.out hle hsz.left
            (.func (.func 41) #[] #[.pointer (some ⟨w.heap.size + 1 + 1, 0, none⟩), .pointer (some ⟨w.heap.size, 0, none⟩), .pointer (some ⟨w.heap.size + 1, 0, none⟩)]) (.inl ⟨rfl, rfl⟩)
            (fun W hW hgW => Write1_any pd ps pm w.heap.size (w.heap.size + 1) (w.heap.size + 1 + 1) k c { D with left := max (D.left - 1) 0 } B l W hW (hgW.cell_some x0 (by show w.heap.size ≠ pd; omega)) (hgW.cell_some x1 (by show w.heap.size + 1 ≠ pd; omega))
              (hgW.cell_some (by rw [x2, H64.out]) (by show w.heap.size + 1 + 1 ≠ pd; omega)) (hr0.keep hgW hBn) H64.out hk))
          clear hle
          go_enter Tryz.func19, Tryz.ntmps19
          go_wp2_with fail
          rw [HW0.out]
          refine HR.out.mono ?_
          rintro e w' ⟨rfl, rfl⟩
          go_wp2_with fail
          refine HH.out.mono ?_
          rintro e w' ⟨rfl, rfl⟩
          go_wp2_with fail
          refine HO.out.mono ?_
          rintro e w1 ⟨rfl, h1, hg1⟩
          go_wp2
          go_ret
          exact ⟨rfl, h1, hg0.non_then hg1⟩
      · rw [if_pos (show l.length ≠ 64 from h64)]
        have hl64 : ((l.length : Int) != 64) = true := by simp; omega
        clear h64
        go_enter Tryz.func19, Tryz.ntmps19
        go_wp2_with fail
        rw [HW0.out]
        refine HR.out.mono ?_
        rintro e w' ⟨rfl, rfl⟩
        go_wp2_with fail
        refine HH.out.mono ?_
        rintro e w' ⟨rfl, rfl⟩
        go_wp2
        go_ret
        exact ⟨rfl, H0.out, hg0.of_non⟩
    · rw [decide_eq_false hin] at hhas
      have HH := Lib.hid hhas
      simp only [hin, not_false_eq_true, if_true]
      clear hhas
      go_enter Tryz.func19, Tryz.ntmps19
      go_wp2_with fail
      rw [HW0.out]
      refine HR.out.mono ?_
      rintro e w' ⟨rfl, rfl⟩
      go_wp2_with fail
      refine HH.out.mono ?_
      rintro e w' ⟨rfl, rfl⟩
      go_wp2
      go_ret
      exact ⟨rfl, H0.out, hg0.of_non⟩
end Go.Proofs.YtgmpacndjmmgjaaGreat
end
section
namespace Go.Proofs.YtgmpacndjmmgjaaGreat
open Go.RowKit
set_option linter.unusedVariables false

set_option maxRecDepth 100000 in
set_option maxHeartbeats 2000000 in
theorem Flush1_any (pd ps pm p1 : Nat) (D : Dk) (w : World) (h : IsD w pd ps pm D) (h1 : w.cell? ⟨p1, 0, none⟩ = some (.pointer (some ⟨pd, 0, none⟩))) :
    Calls Tryz.prog 43 #[.pointer (some ⟨p1, 0, none⟩)] w fun e w' => e = .returned (.tuple #[]) ∧ IsD w' pd ps pm (D.spill fun _ => true) ∧ Chg (DS pd ps pm) w w' := by
  have HS := Lib.hid (spill_all pd ps pm D w h)
  clear h
  go_enter Tryz.func43, Tryz.ntmps43
  go_wp2_with fail
  refine HS.out.mono ?_
  rintro e w1 ⟨rfl, h1, hg1⟩
  go_wp2
  go_end0
  exact ⟨rfl, h1, hg1⟩

set_option maxRecDepth 100000 in
set_option maxHeartbeats 2000000 in
theorem Flush_any (pd ps pm : Nat) (D : Dk) (w : World) (h : IsD w pd ps pm D) (hsz : D.Sz) :
    Calls Tryz.prog 21 #[.pointer (some ⟨pd, 0, none⟩)] w fun e w' => e = .returned (.int .i64 D.flush.2) ∧ IsD w' pd ps pm D.flush.1 ∧ Chg (DS pd ps pm) w w' := by
  have hlt := h.lt
  obtain ⟨W0, hW0⟩ : ∃ W0, w.alloc (.cells #[.pointer (some ⟨pd, 0, none⟩)] 24) = W0 := ⟨_, rfl⟩
  have hg0 : Chg Non w W0 := by rw [← hW0]; exact (Chg.refl _ _).alloc _
  have x0 : W0.cell? ⟨w.heap.size, 0, none⟩ = some (.pointer (some ⟨pd, 0, none⟩)) := by rw [← hW0, cell_of_row _ _ _ _ _ _ (heap_alloc_new _ _)]; rfl
  have h0 := h.non hg0
  have hrd := ready_ok pd ps pm D W0 h0
  have HW0 := Lib.hid hW0
  clear hW0 h
  unfold Dk.flush
  cases hup : D.up with
  | false =>
    have hr1 : D.ready = 60 := by unfold Dk.ready; rw [hup]; rfl
    rw [hr1] at hrd
    have HR := Lib.hid hrd
    have H0 := Lib.hid h0
    clear hrd hr1 h0 hup
    simp only [if_true]
    go_enter Tryz.func21, Tryz.ntmps21
    go_wp2_with fail
    rw [HW0.out]
    refine HR.out.mono ?_
    rintro e w' ⟨rfl, rfl⟩
    go_wp2
    go_ret
    exact ⟨rfl, H0.out, hg0.of_non⟩
  | true =>
    have hr1 : D.ready = 0 := by unfold Dk.ready; rw [hup]; rfl
    rw [hr1] at hrd
    have HR := Lib.hid hrd
    have H0 := Lib.hid h0
    clear hrd hr1 h0 hup
    simp only [Bool.true_eq_false, if_false]
    unfold Dk.operate
    by_cases hle : D.left = 1
    · simp only [hle, if_true]
      have HO := Lib.hid (fun fv => operate_falls pd ps pm D fv W0 H0.out hle hsz.stay)
      clear hle
      go_enter Tryz.func21, Tryz.ntmps21
      go_wp2_with fail
      rw [HW0.out]
      refine HR.out.mono ?_
      rintro e w' ⟨rfl, rfl⟩
      go_wp2_with fail
      refine (HO.out _).mono ?_
      rintro e w1 ⟨rfl, h1, hg1⟩
      go_wp2
      go_ret
      exact ⟨rfl, h1, hg0.non_then hg1⟩
    · simp only [hle, if_false]
      have HO := Lib.hid (operate_goes pd ps pm D (Dk.spill { D with left := max (D.left - 1) 0 } fun _ => true) 43 #[.pointer (some ⟨w.heap.size, 0, none⟩)] W0 H0.out hle hsz.left
        (.func (.func 43) #[] #[.pointer (some ⟨w.heap.size, 0, none⟩)]) (.inr ⟨rfl, rfl⟩)
        (fun W hW hgW => Flush1_any pd ps pm w.heap.size { D with left := max (D.left - 1) 0 } W hW (hgW.cell_some x0 (by show w.heap.size ≠ pd; omega))))
      clear hle
      go_enter Tryz.func21, Tryz.ntmps21
      go_wp2_with fail
      rw [HW0.out]
      refine HR.out.mono ?_
      rintro e w' ⟨rfl, rfl⟩
      go_wp2_with fail
      refine HO.out.mono ?_
      rintro e w1 ⟨rfl, h1, hg1⟩
      go_wp2
      go_ret
      exact ⟨rfl, h1, hg0.non_then hg1⟩

set_option maxRecDepth 100000 in
set_option maxHeartbeats 2000000 in
theorem Crash_any (pd ps pm : Nat) (D : Dk) (B : Option Addr) (m : List UInt8) (cm : Nat) (w : World) (h : IsD w pd ps pm D) (hBm : Rd w B m) (hBn : ∀ b o, B = some ⟨b, o, none⟩ → m ≠ [] → ¬ DS pd ps pm b) (hml : m.length ≤ 1000000) :
    Calls Tryz.prog 23 #[.pointer (some ⟨pd, 0, none⟩), .slice B m.length cm] w fun e w' => e = .returned (.int .i64 (D.crash m).2) ∧ IsD w' pd ps pm (D.crash m).1 ∧ Chg (DS pd ps pm) w w' := by
  have hrd := ready_ok pd ps pm D w h
  have HF := Lib.hid (fall_any pd ps pm D B m cm w h hBm hBn hml)
  have HD := Lib.hid h
  clear h
  unfold Dk.crash
  cases hup : D.up with
  | false =>
    have hr1 : D.ready = 60 := by unfold Dk.ready; rw [hup]; rfl
    rw [hr1] at hrd
    have HR := Lib.hid hrd
    clear hrd hr1 hup
    simp only [if_true]
    go_enter Tryz.func23, Tryz.ntmps23
    go_wp2_with fail
    refine HR.out.mono ?_
    rintro e w' ⟨rfl, rfl⟩
    go_wp2
    go_ret
    exact ⟨rfl, HD.out, Chg.refl _ _⟩
  | true =>
    have hr1 : D.ready = 0 := by unfold Dk.ready; rw [hup]; rfl
    rw [hr1] at hrd
    have HR := Lib.hid hrd
    clear hrd hr1 hup
    simp only [Bool.true_eq_false, if_false]
    go_enter Tryz.func23, Tryz.ntmps23
    go_wp2_with fail
    refine HR.out.mono ?_
    rintro e w' ⟨rfl, rfl⟩
    go_wp2_with fail
    refine HF.out.mono ?_
    rintro e w1 ⟨rfl, h1, hg1⟩
    go_wp2
    go_ret
    exact ⟨rfl, h1, hg1⟩
end Go.Proofs.YtgmpacndjmmgjaaGreat
end
section
namespace Go.Proofs.YtgmpacndjmmgjaaGreat
open Go.RowKit
set_option linter.unusedVariables false

/-- a commit record -/
structure Rec where
  seqn : Int
  slot : Int
  len : Int
  trial : Bool
  hash : List UInt8

def Rec.zero : Rec := ⟨0, 0, 0, false, zTag⟩

/-- a record that may be -/
def Rec.may (r : Rec) : Bool := decide (1 ≤ r.seqn) && (decide (r.slot = 0) || decide (r.slot = 1)) && decide (1 ≤ r.len) && decide (r.len ≤ 4096)

/-- its cells -/
def recA (r : Rec) : Array Value := #[.int .i64 r.seqn, .int .i64 r.slot, .int .i64 r.len, .bool r.trial] ++ tagA r.hash
theorem recA_0 (r : Rec) : (recA r)[0]? = some (.int .i64 r.seqn) := by unfold recA; rw [Array.getElem?_append_left (by simp)]; rfl
theorem recA_1 (r : Rec) : (recA r)[1]? = some (.int .i64 r.slot) := by unfold recA; rw [Array.getElem?_append_left (by simp)]; rfl
theorem recA_2 (r : Rec) : (recA r)[2]? = some (.int .i64 r.len) := by unfold recA; rw [Array.getElem?_append_left (by simp)]; rfl
theorem recA_3 (r : Rec) : (recA r)[3]? = some (.bool r.trial) := by unfold recA; rw [Array.getElem?_append_left (by simp)]; rfl
theorem recA_size (r : Rec) (h : r.hash.length = 32) : (recA r).size = 36 := by unfold recA; rw [Array.size_append, tagA_size _ h]; rfl
theorem recA_one (r : Rec) : (recA r).all (·.oneCell') = true := by
  unfold recA
  rw [Array.all_append, tagA_one, Bool.and_true]
  simp [Value.oneCell']
theorem recA_list (r : Rec) : (recA r).toList = [.int .i64 r.seqn, .int .i64 r.slot, .int .i64 r.len, .bool r.trial] ++ r.hash.map bv := by
  unfold recA tagA
  simp
def recZ : Array Value := recA Rec.zero
theorem recZ_size : recZ.size = 36 := recA_size _ zTag_len
theorem recZ_one : recZ.all (·.oneCell') = true := recA_one _

theorem range_block {w : World} {b : Nat} {C : Array Value} {t : TypeId} {fr : Nat × Nat} (h : w.heap[b]? = some (.cells C t fr)) : w.rangeAt b 0 C.toList := fun j v hv => by
  rw [cell_of_row _ _ _ _ _ _ h, Nat.zero_add]
  simpa using hv

theorem info_rec : (Tryz.prog.info? 34).map (·.size) = some 36 := by kernel_rfl

set_option maxRecDepth 100000 in
set_option maxHeartbeats 2000000 in
theorem May_any (r : Rec) (w : World) : Calls Tryz.prog 7 #[.agg (recA r)] w fun e w' => e = .returned (.bool r.may) ∧ Chg Non w w' := by
  have r0 := recA_0 r
  have r1 := recA_1 r
  have r2 := recA_2 r
  have hm : r.may = (decide (1 ≤ r.seqn) && (decide (r.slot = 0) || decide (r.slot = 1)) && decide (1 ≤ r.len) && decide (r.len ≤ 4096)) := rfl
  obtain ⟨X, hX⟩ : ∃ X, recA r = X := ⟨_, rfl⟩
  obtain ⟨y, hy⟩ : ∃ y, r.may = y := ⟨_, rfl⟩
  rw [hX] at r0 r1 r2 ⊢
  rw [hy] at hm ⊢
  clear hX hy
  obtain ⟨sq, sl, ln, tr, hs⟩ := r
  simp only at r0 r1 r2 hm
  have e2 : decide (sl = 0) = (sl == 0) := rfl
  have e3 : decide (sl = 1) = (sl == 1) := rfl
  rw [e2, e3] at hm
  clear e2 e3
  obtain ⟨b1, h1⟩ : ∃ b, decide (1 ≤ sq) = b := ⟨_, rfl⟩
  obtain ⟨b2, h2⟩ : ∃ b, (sl == 0) = b := ⟨_, rfl⟩
  obtain ⟨b3, h3⟩ : ∃ b, (sl == 1) = b := ⟨_, rfl⟩
  obtain ⟨b4, h4⟩ : ∃ b, decide (1 ≤ ln) = b := ⟨_, rfl⟩
  obtain ⟨b5, h5⟩ : ∃ b, decide (ln ≤ 4096) = b := ⟨_, rfl⟩
  rw [h1, h2, h3, h4, h5] at hm
  subst hm
  cases b1 <;> cases b2 <;> cases b3 <;> cases b4 <;> cases b5
  all_goals
    go_enter Tryz.func7, Tryz.ntmps7
    go_wp2
    go_ret
    exact ⟨rfl, (Chg.refl _ _).alloc _⟩
end Go.Proofs.YtgmpacndjmmgjaaGreat
end
section
namespace Go.Proofs.YtgmpacndjmmgjaaGreat
open Go.RowKit

theorem eq_cache (w : World) (r : Option Nat) : (binOp .eql 57 (.map r) (.map none)).run Tryz.prog w = .ok (.bool r.isNone) w :=
  run_eql_map_nil w _ _ _ r Tryz.underlying57

/-- a disk that nobody made: nil, or one whose cache is nil -/
def NoDisk (w : World) (p : Option Addr) : Prop := match p with
  | none => True
  | some a => a.spot = none ∧ w.cell? ⟨a.block, a.off + 2, none⟩ = some (.map none)

set_option maxRecDepth 100000 in
set_option maxHeartbeats 400000 in
theorem none_no (p : Option Addr) (w : World) (hp : NoDisk w p) :
    Calls Tryz.prog 30 #[.pointer p] w fun e w' => e = .returned (.bool true) ∧ w = w' := by
  rcases p with _ | ⟨b, o, s⟩
  · go_enter Tryz.func30, Tryz.ntmps30
    go_wp2
    go_ret
    exact ⟨rfl, rfl⟩
  · obtain ⟨rfl, hc⟩ := hp
    have he := eq_cache
    go_enter Tryz.func30, Tryz.ntmps30
    go_wp2
    go_ret
    exact ⟨rfl, rfl⟩

set_option maxRecDepth 100000 in
set_option maxHeartbeats 400000 in
theorem ready_no (p : Option Addr) (w : World) (hp : NoDisk w p) :
    Calls Tryz.prog 34 #[.pointer p] w fun e w' => e = .returned (.int .i64 1) ∧ w = w' := by
  go_enter Tryz.func34, Tryz.ntmps34
  go_wp2_with (go_at_call 30; refine (none_no _ _ hp).mono ?_; rintro e w' ⟨rfl, rfl⟩)
  go_ret
  exact ⟨rfl, rfl⟩

set_option maxRecDepth 100000 in
set_option maxHeartbeats 400000 in
theorem Len_no (p : Option Addr) (w : World) (hp : NoDisk w p) :
    Calls Tryz.prog 31 #[.pointer p] w fun e w' => e = .returned (.int .i64 0) ∧ w = w' := by
  go_enter Tryz.func31, Tryz.ntmps31
  go_wp2_with (go_at_call 30; refine (none_no _ _ hp).mono ?_; rintro e w' ⟨rfl, rfl⟩)
  go_ret
  exact ⟨rfl, rfl⟩

set_option maxRecDepth 100000 in
set_option maxHeartbeats 400000 in
theorem Read_no (p : Option Addr) (i : Int) (w : World) (hp : NoDisk w p) :
    Calls Tryz.prog 13 #[.pointer p, .int .i64 i] w fun e w' => e = .returned (.tuple #[.slice none 0 0, .int .i64 1]) ∧ w = w' := by
  go_enter Tryz.func13, Tryz.ntmps13
  go_wp2_with (go_at_call 34; refine (ready_no _ _ hp).mono ?_; rintro e w' ⟨rfl, rfl⟩)
  go_ret2
  exact ⟨rfl, rfl⟩
end Go.Proofs.YtgmpacndjmmgjaaGreat
end
section
namespace Go.Proofs.YtgmpacndjmmgjaaGreat
open Go.RowKit
set_option linter.unusedVariables false

theorem run_results_cell2_tmp {P : Program} {fn : Func} {p p2 q : Tmp} {ty : TypeId} (h : fn.results = #[.cell p ty, .cell p2 ty, .tmp q]) (tmps : Array Value) (w : World) (g g2 : Nat) (t : TypeId) (cs cs2 : Array Value) (fr fr2 : Nat × Nat) (d : TypeDesc) (v : Value)
    (hp : tmps.getD p undef = .pointer (some ⟨g, 0, none⟩)) (hp2 : tmps.getD p2 undef = .pointer (some ⟨g2, 0, none⟩)) (hv : tmps.getD q undef = v) (hg : w.heap[g]? = some (.cells cs t fr)) (hg2 : w.heap[g2]? = some (.cells cs2 t fr2))
    (hu : P.underlying ty = some d) (hd : (match d with | .struct _ | .array _ _ => true | _ => false) = true) (hi : (P.info? ty).map (·.size) = some cs.size) (hi2 : (P.info? ty).map (·.size) = some cs2.size) :
    (results fn tmps).run P w = .ok (.tuple #[.agg cs, .agg cs2, v]) w := by
  have hp' : tmps[p]?.getD undef = .pointer (some ⟨g, 0, none⟩) := by simpa using hp
  have hp2' : tmps[p2]?.getD undef = .pointer (some ⟨g2, 0, none⟩) := by simpa using hp2
  have hv' : tmps[q]?.getD undef = v := by simpa using hv
  simp [results, h, hp', hp2', hv', asAddr, run_loadVar_row w g t ty cs fr d hg hu hd hi, run_loadVar_row w g2 t ty cs2 fr2 d hg2 hu hd hi2]

/-- two records lie in blocks b, g -/
def Two (b g : Nat) (X Y : Array Value) (w : World) : Prop :=
  w.heap[b]? = some (.cells X 34 (0, 0)) ∧ w.heap[g]? = some (.cells Y 34 (0, 0))
theorem Two.left {b g : Nat} {X Y : Array Value} {w : World} (h : Two b g X Y w) : w.rangeAt b 0 X.toList := fun j v hv => by
  rw [cell_of_row _ _ _ _ _ _ h.1, Nat.zero_add]
  simpa using hv
theorem Two.right {b g : Nat} {X Y : Array Value} {w : World} (h : Two b g X Y w) : w.rangeAt g 0 Y.toList := fun j v hv => by
  rw [cell_of_row _ _ _ _ _ _ h.2, Nat.zero_add]
  simpa using hv
theorem Two.put1 {b g : Nat} {X Y Z : Array Value} {w W : World} (h : Two b g X Y w) (hne : b ≠ g) (hg : Chg (fun k => k = b) w W) (hb : W.heap[b]? = some (.cells Z 34 (0, 0))) : Two b g Z Y W :=
  ⟨hb, (hg.block g (Array.getElem?_eq_some_iff.1 h.2).1 (Ne.symm hne)).trans h.2⟩
theorem Two.put2 {b g : Nat} {X Y Z : Array Value} {w W : World} (h : Two b g X Y w) (hne : b ≠ g) (hg : Chg (fun k => k = g) w W) (hb : W.heap[g]? = some (.cells Z 34 (0, 0))) : Two b g X Z W :=
  ⟨(hg.block b (Array.getElem?_eq_some_iff.1 h.1).1 hne).trans h.1, hb⟩
theorem Two.non {b g : Nat} {X Y : Array Value} {w W : World} (h : Two b g X Y w) (hg : Chg Non w W) : Two b g X Y W :=
  ⟨(hg.block b (Array.getElem?_eq_some_iff.1 h.1).1 (fun e => e)).trans h.1, (hg.block g (Array.getElem?_eq_some_iff.1 h.2).1 (fun e => e)).trans h.2⟩
theorem Two.keep {T : Nat → Prop} {b g : Nat} {X Y : Array Value} {w W : World} (h : Two b g X Y w) (hg : Chg T w W) (h1 : ¬ T b) (h2 : ¬ T g) : Two b g X Y W :=
  ⟨(hg.block b (Array.getElem?_eq_some_iff.1 h.1).1 h1).trans h.1, (hg.block g (Array.getElem?_eq_some_iff.1 h.2).1 h2).trans h.2⟩

set_option maxRecDepth 100000 in
set_option maxHeartbeats 2000000 in
theorem cGet_no (p : Option Addr) (w : World) (hp : ∀ W, Chg Non w W → NoDisk W p) :
    Calls Tryz.prog 11 #[.pointer p] w fun e w' => e = .returned (.tuple #[.agg recZ, .agg recZ, .int .i64 1]) ∧ Chg Non w w' := by
  have HL := Lib.hid (fun W h => Len_no p W (hp W h))
  clear hp
  go_enter Tryz.func11, Tryz.ntmps11
  go_wp2_with fail
  refine (HL.out _ (((Chg.refl Non w).alloc _).alloc _)).mono ?_
  rintro e w' ⟨rfl, rfl⟩
  go_wp2_with fail
  have hT : Two w.heap.size (w.heap.size + 1) recZ recZ ((w.alloc (.cells recZ 34)).alloc (.cells recZ 34)) := ⟨heap_alloc2_old _ _ _, heap_alloc2_new _ _ _⟩
  have hg : Chg Non w ((w.alloc (.cells recZ 34)).alloc (.cells recZ 34)) := ((Chg.refl Non w).alloc _).alloc _
  have HT := Lib.hid hT
  have HG := Lib.hid hg
  clear hT hg
  refine wp_region_any (by kernel_rfl) ?_
  change wpAny _ _ _ _ _ _ _ (World.drew _)
  have hTd : Two w.heap.size (w.heap.size + 1) recZ recZ ((w.alloc (.cells recZ 34)).alloc (.cells recZ 34)).drew := HT.out
  have hne : w.heap.size ≠ w.heap.size + 1 := by omega
  refine g_two 0 1 (by kernel_rfl) ?_ ?_
  · refine g_load (some 14) 34 (.tmp 2) w.heap.size 0 recZ _ rfl (by kernel_rfl) (by kernel_rfl) (by kernel_rfl) (by kernel_rfl) hTd.left Tryz.underlying34 rfl (by rw [recZ_size]; exact info_rec) ?_
    simp only [Act.put, List.setIfInBounds_toArray, List.set_cons_zero, List.set_cons_succ]
    refine g_two 1 2 (by kernel_rfl) ?_ ?_
    · refine g_load (some 15) 34 (.tmp 3) (w.heap.size + 1) 0 recZ _ rfl (by kernel_rfl) (by kernel_rfl) (by kernel_rfl) (by kernel_rfl) hTd.right Tryz.underlying34 rfl (by rw [recZ_size]; exact info_rec) ?_
      simp only [Act.put, List.setIfInBounds_toArray, List.set_cons_zero, List.set_cons_succ]
      refine g_one 2 (by kernel_rfl) ?_
      refine g_store 34 (.tmp 2) (.tmp 14) w.heap.size recZ rfl (by kernel_rfl) (by kernel_rfl) (by kernel_rfl) (by kernel_rfl) (by kernel_rfl) 34 ⟨_, hTd.1, rfl⟩ (by rw [recZ_size]; exact info_rec) recZ_one ?_
      intro W1 hg1 hb1
      have hT1 := hTd.put1 hne hg1 hb1
      refine g_one 3 (by kernel_rfl) ?_
      refine g_store 34 (.tmp 3) (.tmp 15) (w.heap.size + 1) recZ rfl (by kernel_rfl) (by kernel_rfl) (by kernel_rfl) (by kernel_rfl) (by kernel_rfl) 34 ⟨_, hT1.2, rfl⟩ (by rw [recZ_size]; exact info_rec) recZ_one ?_
      intro W2 hg2 hb2
      have hT2 := hT1.put2 hne hg2 hb2
      refine g_one 4 (by kernel_rfl) ?_
      refine g_pure (some 4) (.int .i64 1) rfl (by kernel_rfl) (by kernel_rfl) (by go_simp) ?_
      simp only [Act.put, List.setIfInBounds_toArray, List.set_cons_zero, List.set_cons_succ]
      refine wpAny_done (by kernel_rfl) ?_ _
      go_wp2
      exact bodyPost_ret (run_results_cell2_tmp Tryz.results11 _ _ w.heap.size (w.heap.size + 1) 34 recZ recZ (0, 0) (0, 0) _ (.int .i64 1) (by kernel_rfl) (by kernel_rfl) (by kernel_rfl) hT2.1 hT2.2 Tryz.underlying34 rfl (by rw [recZ_size]; exact info_rec) (by rw [recZ_size]; exact info_rec)) (by kernel_rfl) ⟨rfl, ((HG.out.drew).then_new hg1 (fun x e => by omega)).then_new hg2 (fun x e => by omega)⟩
    · refine g_store 34 (.tmp 2) (.tmp 14) w.heap.size recZ rfl (by kernel_rfl) (by kernel_rfl) (by kernel_rfl) (by kernel_rfl) (by kernel_rfl) 34 ⟨_, hTd.1, rfl⟩ (by rw [recZ_size]; exact info_rec) recZ_one ?_
      intro W1 hg1 hb1
      have hT1 := hTd.put1 hne hg1 hb1
      refine g_one 1 (by kernel_rfl) ?_
      refine g_load (some 15) 34 (.tmp 3) (w.heap.size + 1) 0 recZ _ rfl (by kernel_rfl) (by kernel_rfl) (by kernel_rfl) (by kernel_rfl) hT1.right Tryz.underlying34 rfl (by rw [recZ_size]; exact info_rec) ?_
      simp only [Act.put, List.setIfInBounds_toArray, List.set_cons_zero, List.set_cons_succ]
      refine g_one 3 (by kernel_rfl) ?_
      refine g_store 34 (.tmp 3) (.tmp 15) (w.heap.size + 1) recZ rfl (by kernel_rfl) (by kernel_rfl) (by kernel_rfl) (by kernel_rfl) (by kernel_rfl) 34 ⟨_, hT1.2, rfl⟩ (by rw [recZ_size]; exact info_rec) recZ_one ?_
      intro W2 hg2 hb2
      have hT2 := hT1.put2 hne hg2 hb2
      refine g_one 4 (by kernel_rfl) ?_
      refine g_pure (some 4) (.int .i64 1) rfl (by kernel_rfl) (by kernel_rfl) (by go_simp) ?_
      simp only [Act.put, List.setIfInBounds_toArray, List.set_cons_zero, List.set_cons_succ]
      refine wpAny_done (by kernel_rfl) ?_ _
      go_wp2
      exact bodyPost_ret (run_results_cell2_tmp Tryz.results11 _ _ w.heap.size (w.heap.size + 1) 34 recZ recZ (0, 0) (0, 0) _ (.int .i64 1) (by kernel_rfl) (by kernel_rfl) (by kernel_rfl) hT2.1 hT2.2 Tryz.underlying34 rfl (by rw [recZ_size]; exact info_rec) (by rw [recZ_size]; exact info_rec)) (by kernel_rfl) ⟨rfl, ((HG.out.drew).then_new hg1 (fun x e => by omega)).then_new hg2 (fun x e => by omega)⟩
  · refine g_load (some 15) 34 (.tmp 3) (w.heap.size + 1) 0 recZ _ rfl (by kernel_rfl) (by kernel_rfl) (by kernel_rfl) (by kernel_rfl) hTd.right Tryz.underlying34 rfl (by rw [recZ_size]; exact info_rec) ?_
    simp only [Act.put, List.setIfInBounds_toArray, List.set_cons_zero, List.set_cons_succ]
    refine g_one 0 (by kernel_rfl) ?_
    refine g_load (some 14) 34 (.tmp 2) w.heap.size 0 recZ _ rfl (by kernel_rfl) (by kernel_rfl) (by kernel_rfl) (by kernel_rfl) hTd.left Tryz.underlying34 rfl (by rw [recZ_size]; exact info_rec) ?_
    simp only [Act.put, List.setIfInBounds_toArray, List.set_cons_zero, List.set_cons_succ]
    refine g_one 2 (by kernel_rfl) ?_
    refine g_store 34 (.tmp 2) (.tmp 14) w.heap.size recZ rfl (by kernel_rfl) (by kernel_rfl) (by kernel_rfl) (by kernel_rfl) (by kernel_rfl) 34 ⟨_, hTd.1, rfl⟩ (by rw [recZ_size]; exact info_rec) recZ_one ?_
    intro W1 hg1 hb1
    have hT1 := hTd.put1 hne hg1 hb1
    refine g_one 3 (by kernel_rfl) ?_
    refine g_store 34 (.tmp 3) (.tmp 15) (w.heap.size + 1) recZ rfl (by kernel_rfl) (by kernel_rfl) (by kernel_rfl) (by kernel_rfl) (by kernel_rfl) 34 ⟨_, hT1.2, rfl⟩ (by rw [recZ_size]; exact info_rec) recZ_one ?_
    intro W2 hg2 hb2
    have hT2 := hT1.put2 hne hg2 hb2
    refine g_one 4 (by kernel_rfl) ?_
    refine g_pure (some 4) (.int .i64 1) rfl (by kernel_rfl) (by kernel_rfl) (by go_simp) ?_
    simp only [Act.put, List.setIfInBounds_toArray, List.set_cons_zero, List.set_cons_succ]
    refine wpAny_done (by kernel_rfl) ?_ _
    go_wp2
    exact bodyPost_ret (run_results_cell2_tmp Tryz.results11 _ _ w.heap.size (w.heap.size + 1) 34 recZ recZ (0, 0) (0, 0) _ (.int .i64 1) (by kernel_rfl) (by kernel_rfl) (by kernel_rfl) hT2.1 hT2.2 Tryz.underlying34 rfl (by rw [recZ_size]; exact info_rec) (by rw [recZ_size]; exact info_rec)) (by kernel_rfl) ⟨rfl, ((HG.out.drew).then_new hg1 (fun x e => by omega)).then_new hg2 (fun x e => by omega)⟩
end Go.Proofs.YtgmpacndjmmgjaaGreat
end
section
namespace Go.Proofs.YtgmpacndjmmgjaaGreat
open Go.RowKit
set_option linter.unusedVariables false

theorem tagA_at (h : List UInt8) (i : Nat) (hi : i < h.length) : (tagA h)[i]? = some (.int .u8 (h[i].toNat : Int)) := by
  unfold tagA
  simp [bv, hi]

set_option maxRecDepth 100000 in
set_option maxHeartbeats 2000000 in
theorem rBytes (h : List UInt8) (w : World) (hh : h.length = 32) :
    Calls Tryz.prog 77 #[.agg (tagA h)] w (RetB w h) := by
  obtain ⟨X, hX⟩ : ∃ X, tagA h = X := ⟨_, rfl⟩
  have HT := Lib.hid (fun i (hi : i < h.length) => hX ▸ tagA_at h i hi)
  rw [hX]
  clear hX
  go_enter Tryz.func77, Tryz.ntmps77
  go_wp2_with fail
  go_loopw [3, 4] (fun v i wr => ∃ k : Nat, k ≤ 32 ∧ i = .int .i64 k ∧ OwnB (w.heap.size + 1) wr v (h.take k) ∧ Chg Non (w.alloc (.cells X 32)) wr) (fun _ i _ => 32 - (intOf i).toNat)
  case atStart => exact ⟨0, by omega, rfl, OwnB.nil _ _, Chg.refl _ _⟩
  case round =>
    obtain ⟨k, hk, rfl, hO, hC⟩ := hrel
    have HO := Lib.hid hO
    have HC := Lib.hid hC
    clear hO hC
    have hsz : w.heap.size + 1 ≤ wr.heap.size := by have := HC.out.size; simpa using this
    by_cases hlt : k < 32
    · have hlt' : decide ((k : Int) < 32) = true := by simp; omega
      have hcell : wr.cell? ⟨w.heap.size, k, none⟩ = some (.int .u8 (h[k].toNat : Int)) := by
        rw [cell_of_row _ _ _ _ _ _ ((HC.out.block w.heap.size (by simp) (fun e => e)).trans (heap_alloc_new _ _))]
        exact HT.out k (by omega)
      go_wp2_with (first
        | (refine sel (some 14) (.call { callee := .builtin .append, args := #[.tmp 9, .tmp 13], argTypes := #[35, 35] }) ?_
           refine Hole1.out ?_))
      refine ⟨?_⟩
      refine wpList_snoc rfl (.tmp 9) (.tmp 13) rfl (w.heap.size + 1) u3 (h.take k) rfl (HO.out.non ((Chg.refl _ _).alloc _)) wr.heap.size h[k] rfl (by go_simp) (by simp; omega) (by simp; omega) ?_
      intro v2 w2 hO2 hg2
      have HO2 := Lib.hid hO2
      have HG2 := Lib.hid ((HC.out.alloc _).then_new hg2 (fun x e => by simpa using e))
      clear hO2 hg2
      go_wp2_with fail
      case roundEnd =>
        refine ⟨⟨k + 1, by omega, by simp, ?_, HG2.out⟩, by simp [intOf]; omega⟩
        rw [← List.take_append_getElem (show k < h.length by omega)]
        exact HO2.out
    · obtain rfl : k = 32 := by omega
      have HO1 := Lib.hid (by have := HO.out; rwa [List.take_of_length_le (by omega)] at this)
      go_wp2_with fail
      go_ret
      have hs1 : (w.alloc (.cells X 32)).heap.size = w.heap.size + 1 := by simp
      refine RetB.from ?_ ((Chg.refl Non w).alloc (.cells X 32))
      refine OwnB.ret ?_ HC.out
      rw [hs1]
      exact HO1.out

set_option maxRecDepth 100000 in
set_option maxHeartbeats 400000 in
theorem rTag (h : List UInt8) (w : World) (hh : h.length = 32) : Calls Tryz.prog 50 #[.agg (tagA h)] w (RetB w h) := by
  have HB := Lib.hid (rBytes h (w.alloc (.cells (tagA h) 32)) hh)
  have HS := Lib.hid (tagA_size h hh)
  obtain ⟨X, hX⟩ : ∃ X, tagA h = X := ⟨_, rfl⟩
  rw [hX] at HB HS ⊢
  clear hX hh
  go_enter Tryz.func50, Tryz.ntmps50
  go_wp2_with (first
    | (refine sel (some 3) (.load 32 (.tmp 1)) ?_
       refine wpList_loadW (some 3) 32 (.tmp 1) w.heap.size 0 X _ rfl rfl (by kernel_rfl) (by kernel_rfl) (range_block (heap_alloc_new _ _)) Tryz.underlying32 rfl (by rw [HS.out]; kernel_rfl) ?_))
  refine HB.out.mono ?_
  rintro e u ⟨A2, c2, rfl, h1, h2, h3, h4⟩
  have HR := Lib.hid (RetB.from (show RetB (w.alloc (.cells X 32)) h (.returned (.slice A2 h.length c2)) u from ⟨A2, c2, rfl, h1, h2, h3, h4⟩) ((Chg.refl Non w).alloc _))
  clear h1 h2 h3 h4
  go_wp2_with fail
  go_ret
  exact HR.out

set_option maxRecDepth 100000 in
set_option maxHeartbeats 400000 in
theorem rIntO (n : Int) (w : World) : Calls Tryz.prog 48 #[.int .i64 n] w (RetO w (be (u64 n) 8)) := by
  have HB := Lib.hid (rPutO (u64 n) 8 w (u64_lt n) (by omega))
  rw [u64_cast] at HB
  obtain ⟨L, hL⟩ : ∃ L, be (u64 n) 8 = L := ⟨_, rfl⟩
  rw [hL] at HB ⊢
  clear hL
  go_enter Tryz.func48, Tryz.ntmps48
  go_wp2_with fail
  refine HB.out.mono ?_
  rintro e u ⟨v, rfl, h1, h2⟩
  have HR := Lib.hid (show RetO w L (.returned v) u from ⟨v, rfl, h1, h2⟩)
  clear h1 h2
  go_wp2_with fail
  go_ret
  exact HR.out
theorem rInt (n : Int) (w : World) : Calls Tryz.prog 48 #[.int .i64 n] w (RetB w (be (u64 n) 8)) := (rIntO n w).mono fun _ _ h => h.retB

theorem retB_one (y : UInt8) (w : World) : RetB w [y] (.returned (.slice (some ⟨w.heap.size, 0, none⟩) 1 1)) (w.alloc (.cells #[.int .u8 (y.toNat : Int)] 5)) := by
  refine ⟨_, 1, rfl, Nat.le_refl _, by unfold maxLen; omega, ?_, (Chg.refl Non w).alloc _⟩
  intro i x hx
  cases i with
  | zero =>
    simp only [List.getElem?_cons_zero, Option.some.injEq] at hx
    subst hx
    refine ⟨w.heap.size, 0, rfl, Nat.le_refl _, ?_, ?_⟩
    · rw [cell_of_row _ _ _ _ _ _ (heap_alloc_new _ _)]; rfl
    · exact frozen_of_row _ _ _ _ _ (heap_alloc_new _ _)
  | succ i => simp at hx

set_option maxRecDepth 100000 in
set_option maxHeartbeats 400000 in
theorem rFlag (b : Bool) (w : World) : Calls Tryz.prog 49 #[.bool b] w (RetB w [flagB b]) := by
  cases b with
  | true =>
    go_enter Tryz.func49, Tryz.ntmps49
    go_wp2_with fail
    go_ret
    exact retB_one 1 w
  | false =>
    go_enter Tryz.func49, Tryz.ntmps49
    go_wp2_with fail
    go_ret
    exact retB_one 0 w
end Go.Proofs.YtgmpacndjmmgjaaGreat
end
section
namespace Go.Proofs.YtgmpacndjmmgjaaGreat
open Go.RowKit
set_option linter.unusedVariables false

theorem tst_xor (a b : Nat) : tst (a ^^^ b) = tst a ^^^ tst b := by
  unfold tst
  have h1 : (a ^^^ b) / 2 = a / 2 ^^^ b / 2 := by
    have := Nat.shiftRight_xor_distrib (a := a) (b := b) (i := 1)
    simpa [Nat.shiftRight_eq_div_pow] using this
  have h2 : (a ^^^ b) % 2 = (a % 2) ^^^ (b % 2) := by
    have := Nat.xor_mod_two_pow (a := a) (b := b) (n := 1)
    simpa using this
  rw [h1, h2]
  have ha : a % 2 = 0 ∨ a % 2 = 1 := by omega
  have hb : b % 2 = 0 ∨ b % 2 = 1 := by omega
  have hx : ∀ x y p : Nat, (x ^^^ y) ^^^ p = (x ^^^ p) ^^^ y := fun x y p => by rw [Nat.xor_assoc, Nat.xor_comm y p, ← Nat.xor_assoc]
  rcases ha with ha | ha <;> rcases hb with hb | hb <;> rw [ha, hb]
  · simp
  · simp [Nat.xor_assoc]
  · simp [hx]
  · simp only [Nat.xor_self, Nat.mul_zero, Nat.xor_zero, Nat.mul_one]
    rw [← Nat.xor_assoc, hx (a / 2) 3988292384 (b / 2), Nat.xor_assoc, Nat.xor_assoc, Nat.xor_self, Nat.xor_zero]
theorem tst_two (d : Nat) : tst (2 * d) = d := by
  unfold tst
  simp
theorem half_tw (c : Nat) : half c = tw 4 c := by
  have hc : c = (16 * (c / 16)) ^^^ (c % 16) := by
    have h := Nat.two_pow_add_eq_or_of_lt (i := 4) (b := c % 16) (by omega) (c / 16)
    have h2 : (2 ^ 4 * (c / 16)) ^^^ (c % 16) = 2 ^ 4 * (c / 16) + c % 16 := by
      rw [h]
      apply Nat.eq_of_testBit_eq
      intro i
      rw [Nat.testBit_xor, Nat.testBit_or]
      by_cases hi : i < 4
      · have : (2 ^ 4 * (c / 16)).testBit i = false := by rw [Nat.testBit_two_pow_mul]; simp; omega
        rw [this]; simp
      · have : (c % 16).testBit i = false := Nat.testBit_lt_two_pow (Nat.lt_of_lt_of_le (Nat.mod_lt _ (by omega)) (by have := Nat.pow_le_pow_right (n := 2) (by omega) (show 4 ≤ i by omega); omega))
        rw [this]; simp
    have h3 : 2 ^ 4 * (c / 16) = 16 * (c / 16) := rfl
    rw [h3] at h2
    rw [h2]
    omega
  have e : tw 4 c = tst (tst (tst (tst c))) := rfl
  have e2 : tw 4 (c % 16) = tst (tst (tst (tst (c % 16)))) := rfl
  rw [e]
  unfold half
  rw [e2]
  conv => rhs; rw [hc]
  rw [tst_xor, tst_xor, tst_xor, tst_xor]
  congr 1
  rw [show 16 * (c / 16) = 2 * (2 * (2 * (2 * (c / 16)))) by omega, tst_two, tst_two, tst_two, tst_two]
theorem tw_add (c : Nat) : tw 8 c = half (half c) := by
  rw [half_tw, half_tw]
  rfl
theorem crcB_tw (c : Nat) (x : UInt8) : crcB c x = tw 8 (c ^^^ x.toNat) := by
  rw [tw_add]; rfl

set_option maxRecDepth 100000 in
set_option maxHeartbeats 2000000 in
theorem rAdd (A : Option Addr) (l : List UInt8) (c : Nat) (w : World) (h : Rd w A l) (hl : l.length ≤ 1000000) :
    Calls Tryz.prog 115 #[.int .u32 0, .slice A l.length c] w fun e w' => e = .returned (.int .u32 (crcSum l : Int)) ∧ w = w' := by
  have HR := Lib.hid h
  clear h
  have hx0 : bits .xor .u32 0 4294967295 = 4294967295 := by decide
  obtain ⟨q, hq⟩ : ∃ q : Int, (crcSum l : Int) = q := ⟨_, rfl⟩
  rw [hq]
  have HQ := Lib.hid hq
  clear hq
  go_enter Tryz.func115, Tryz.ntmps115
  go_wp2_with fail
  go_loopw [0, 5] (fun cv i wr => ∃ k : Nat, k ≤ l.length ∧ i = .int .i64 k ∧ cv = .int .u32 (crcL 4294967295 (l.take k) : Int) ∧ w = wr) (fun _ i _ => l.length - (intOf i).toNat)
  case atStart => exact ⟨0, by omega, rfl, rfl, rfl⟩
  case round =>
    obtain ⟨k, hk, rfl, rfl, rfl⟩ := hrel
    by_cases hlt : k < l.length
    · obtain ⟨b, o, rfl, _, hcell⟩ := HR.out.at_ (by omega)
      have hk1 := hcell k hlt
      have hlt' : decide ((k : Int) < (l.length : Int)) = true := by simpa using hlt
      clear hcell
      have HS := Lib.hid (crcL_take_snoc 4294967295 l k hlt)
      have hc0 := crcL_lt 4294967295 (l.take k) (by omega)
      obtain ⟨C, hC⟩ : ∃ C, crcL 4294967295 (l.take k) = C := ⟨_, rfl⟩
      rw [hC] at HS hc0 ⊢
      have hxl := l[k].toNat_lt
      have hx : bits .xor .u32 (C : Int) (l[k].toNat : Int) = ((C ^^^ l[k].toNat : Nat) : Int) := u32_xor_nat _ _ hc0 (by omega)
      have hcx := crcX_lt C l[k] hc0
      have HD := Lib.hid (crcB_tw C l[k])
      obtain ⟨D, hD⟩ : ∃ D, C ^^^ l[k].toNat = D := ⟨_, rfl⟩
      rw [hD] at hx hcx HD
      have hcv : IntKind.u32.wrap (l[k].toNat : Int) = (l[k].toNat : Int) := by
        have : IntKind.u32.wrap (l[k].toNat : Int) = (l[k].toNat : Int) % 4294967296 := by simp [IntKind.wrap, IntKind.bits, IntKind.signed]
        omega
      clear hC hD
      go_wp2_with fail
      go_loopw [0, 6] (fun cv i wr => ∃ j : Nat, j ≤ 8 ∧ i = .int .i64 j ∧ cv = .int .u32 (tw j D : Int) ∧ w = wr) (fun _ i _ => 8 - (intOf i).toNat)
      case atStart => exact ⟨0, by omega, rfl, rfl, rfl⟩
      case round =>
        obtain ⟨j, hj, rfl, rfl, rfl⟩ := hrel
        by_cases hj8 : j < 8
        · have hj8' : decide ((j : Int) < 8) = true := by simp; omega
          have htl := tw_lt j D hcx
          have HT := Lib.hid (show tw (j + 1) D = tst (tw j D) from rfl)
          obtain ⟨T, hT⟩ : ∃ T, tw j D = T := ⟨_, rfl⟩
          rw [hT] at HT htl ⊢
          clear hT
          have hm : (T : Int).tmod 2 = ((T % 2 : Nat) : Int) := by rw [Int.tmod_eq_emod_of_nonneg (by omega)]; omega
          have hq : (T : Int).tdiv 2 = ((T / 2 : Nat) : Int) := by rw [Int.tdiv_eq_ediv_of_nonneg (by omega)]; omega
          by_cases hodd : T % 2 = 1
          · have hb : (((T : Int) % 2) == 1) = true := by rw [beq_iff_eq]; omega
            have hx2 : bits .xor .u32 ((T : Int) / 2) 3988292384 = ((tst T : Nat) : Int) := by
              have := u32_xor_nat (T / 2) 3988292384 (by omega) (by omega)
              unfold tst
              rw [hodd, Nat.mul_one]
              exact this
            go_wp2_with fail
            case roundEnd => exact ⟨⟨j + 1, by omega, by simp, by rw [HT.out], trivial⟩, by simp [intOf]; omega⟩
          · have hb : (((T : Int) % 2) == 1) = false := by rw [beq_eq_false_iff_ne]; omega
            go_wp2_with fail
            case roundEnd =>
              refine ⟨⟨j + 1, by omega, by simp, ?_, trivial⟩, by simp [intOf]; omega⟩
              rw [HT.out]
              unfold tst
              rw [show T % 2 = 0 by omega]
              simp
        · obtain rfl : j = 8 := by omega
          go_wp2_with fail
          case roundEnd => exact ⟨⟨k + 1, by omega, by simp, by rw [HS.out, HD.out], trivial⟩, by simp [intOf]; omega⟩
    · obtain rfl : k = l.length := by omega
      rw [List.take_length]
      have hc0 := crcL_lt 4294967295 l (by omega)
      have HE : Hid ((crcSum l : Int) = ((4294967295 - crcL 4294967295 l : Nat) : Int)) := Lib.hid rfl
      obtain ⟨C, hC⟩ : ∃ C, crcL 4294967295 l = C := ⟨_, rfl⟩
      rw [hC] at hc0 HE ⊢
      have hx : bits .xor .u32 (C : Int) 4294967295 = ((4294967295 - C : Nat) : Int) := by
        have := u32_xor_nat C 4294967295 hc0 (by omega)
        rw [Nat.xor_comm, ones_xor C hc0] at this
        exact this
      obtain ⟨E, hE⟩ : ∃ E, 4294967295 - C = E := ⟨_, rfl⟩
      rw [hE] at hx HE
      rw [show ((E : Nat) : Int) = q from HE.out.symm.trans HQ.out] at hx
      clear hE hC
      go_wp2_with fail
      go_ret
      exact ⟨rfl, rfl⟩

set_option maxRecDepth 100000 in
set_option maxHeartbeats 400000 in
theorem rSum (A : Option Addr) (l : List UInt8) (c : Nat) (w : World) (h : Rd w A l) (hl : l.length ≤ 1000000) :
    Calls Tryz.prog 101 #[.slice A l.length c] w fun e w' => e = .returned (.int .u32 (crcSum l : Int)) ∧ w = w' := by
  have HA := Lib.hid (rAdd A l c w h hl)
  obtain ⟨q, hq⟩ : ∃ q : Int, (crcSum l : Int) = q := ⟨_, rfl⟩
  rw [hq] at HA ⊢
  clear h hq
  go_enter Tryz.func101, Tryz.ntmps101
  go_wp2_with fail
  refine HA.out.mono ?_
  rintro e u ⟨rfl, rfl⟩
  go_wp2_with fail
  go_ret
  exact ⟨rfl, rfl⟩

set_option maxRecDepth 100000 in
set_option maxHeartbeats 1000000 in
theorem rCrcPut (A : Option Addr) (l : List UInt8) (c : Nat) (w : World) (h : Rd w A l) (hl : l.length ≤ 900000) :
    Calls Tryz.prog 78 #[.slice A l.length c] w (RetB w (crcPut l)) := by
  have hlt := crcSum_lt l
  have HS := Lib.hid (rSum A l c w h (by omega))
  have HP := Lib.hid (rPut (crcSum l) 4 w (by omega) (by omega))
  have hbl : (be (crcSum l) 4).length = 4 := be_length _ _
  have HC := Lib.hid (fun A2 c2 W (hg : Chg Non w W) (h2 : Rd W A2 (be (crcSum l) 4)) => rCat A l c A2 (be (crcSum l) 4) c2 W (h.non hg) h2 (by rw [hbl]; omega))
  have hw : IntKind.u64.wrap (crcSum l : Int) = (crcSum l : Int) := by
    have : IntKind.u64.wrap (crcSum l : Int) = (crcSum l : Int) % 18446744073709551616 := by simp [IntKind.wrap, IntKind.bits, IntKind.signed]
    omega
  have HE : Hid (crcPut l = l ++ be (crcSum l) 4) := Lib.hid rfl
  rw [HE.out]
  obtain ⟨L, hL⟩ : ∃ L, be (crcSum l) 4 = L := ⟨_, rfl⟩
  rw [hL] at HP HC ⊢
  obtain ⟨s, hs⟩ : ∃ s, crcSum l = s := ⟨_, rfl⟩
  rw [hs] at HS HP hw
  clear hbl HE hL hs h
  go_enter Tryz.func78, Tryz.ntmps78
  go_wp2_with fail
  refine HS.out.mono ?_
  rintro e u ⟨rfl, rfl⟩
  go_wp2_with fail
  refine HP.out.mono ?_
  rintro e u1 ⟨A2, c2, rfl, h1, h2, h3, h4⟩
  have HG := Lib.hid h4
  have HO := Lib.hid h3
  clear h1 h2 h3 h4
  go_wp2_with fail
  refine (HC.out A2 c2 _ HG.out HO.out.rd).mono ?_
  rintro e u2 ⟨A3, c3, rfl, k1, k2, k3, k4⟩
  have HR := Lib.hid (RetB.from (show RetB u1 (l ++ L) (.returned (.slice A3 (l ++ L).length c3)) u2 from ⟨A3, c3, rfl, k1, k2, k3, k4⟩) HG.out)
  clear k1 k2 k3 k4
  obtain ⟨M, hM⟩ : ∃ M, l ++ L = M := ⟨_, rfl⟩
  rw [hM] at HR ⊢
  have HM := Lib.hid hM
  clear hM
  go_wp2_with fail
  go_ret
  rw [HM.out]
  exact HR.out
end Go.Proofs.YtgmpacndjmmgjaaGreat
end
section
namespace Go.Proofs.YtgmpacndjmmgjaaGreat
open Go.RowKit
set_option linter.unusedVariables false

theorem ownB_two (B : Nat) (w : World) (x y : UInt8) (hB : B ≤ w.heap.size) : OwnB B (w.alloc (.cells #[.int .u8 (x.toNat : Int), .int .u8 (y.toNat : Int)] 5)) (.slice (some ⟨w.heap.size, 0, none⟩) 2 2) [x, y] :=
  ⟨by simp, .inr ⟨w.heap.size, 2, _, rfl, hB, heap_alloc_new _ _, Nat.le_refl _, by unfold maxLen; omega, by simp, by simp [bv]⟩⟩

/-- bytes are put behind -/
theorem wpList_bytes {ops : Array Oper} {rest : List Oper} {o : Oper} {a : Act} {w : World} {Q : Exit → Act → World → Prop} (hgd : o.guard = none) (s x : Operand)
    (ho : o.op = .call { callee := .builtin .append, args := #[s, x], argTypes := #[35, 35] })
    (B : Nat) (v : Value) (l : List UInt8) (hs : a.eval s = v) (hown : OwnB B w v l) (A : Option Addr) (m : List UInt8) (c : Nat) (hx : a.eval x = .slice A m.length c) (hm : Rd w A m) (hN : m = [] → A = none ∧ c = 0)
    (hl : l.length ≤ 1000000) (hl2 : m.length ≤ 1000000) (hB : B ≤ w.heap.size)
    (h : ∀ v2 w2, OwnB B w2 v2 (l ++ m) → Chg (fun k => B ≤ k) w w2 → wpList Tryz.prog ops Q rest (a.put o.dst v2) w2) : wpList Tryz.prog ops Q (o :: rest) a w := by
  obtain ⟨i0, hi0, hz0, hs0, hb0⟩ := info_parts info_u8
  by_cases hz : m = []
  · obtain ⟨rfl, rfl⟩ := hN hz
    subst hz
    exact wpList_append_own_none hgd s x 35 ho B 5 i0 1 Tryz.underlying35 hi0 v l.length (l.map bv) hs hown hx (h v w (by rw [List.append_nil]; exact hown) (Chg.refl _ _))
  have h0 : 0 < m.length := List.length_pos_iff.2 hz
  obtain ⟨b, off, rfl, _, hcell⟩ := hm.at_ h0
  refine wpList_append_lies w hgd s x 35 ho B 5 i0 _ 1 1 Tryz.underlying35 hi0 hz0 hs0 hb0 rfl (by omega) v l.length (l.map bv) hs hown ⟨b, off, none⟩ m.length c (m.map bv) hx (by simp) (news_of hcell) (bv_one m) h0 (by unfold maxLen; omega) (by omega) hB _ rfl ?_
  intro g cap w2 h2 hgrow hat hlt
  refine h _ _ ?_ ?_
  · unfold OwnB
    rw [List.length_append, List.map_append]
    exact h2
  · refine (Chg.refl (fun k => B ≤ k) w).grown hgrow fun g' hg' => .inl ?_
    rcases hown.2 with ⟨rfl, _⟩ | ⟨g2, cap2, cur, rfl, hB2, _⟩
    · simp [Value.ownBlock] at hg'
    · obtain rfl : g2 = g' := by simpa [Value.ownBlock] using hg'
      exact hB2

/-- how long a slice is -/
def slLen : Value → Nat
  | .slice _ n _ => n
  | _ => 0

set_option maxRecDepth 100000 in
set_option maxHeartbeats 2000000 in
theorem rSeal (kind : UInt8) (A : Option Addr) (l : List UInt8) (c : Nat) (w : World) (h : Rd w A l) (hN : l = [] → A = none ∧ c = 0) (hl : l.length ≤ 58) :
    Calls Tryz.prog 51 #[.int .u8 (kind.toNat : Int), .slice A l.length c] w (RetB w (sealL kind l)) := by
  have HR := Lib.hid h
  have HN := Lib.hid hN
  clear h hN
  have hz : ((UInt8.ofNat l.length).toNat : Int) = (l.length : Int) := by rw [UInt8.toNat_ofNat']; omega
  have hT : ([kind, UInt8.ofNat l.length] ++ l ++ List.replicate (58 - l.length) 0).length = 60 := by simp; omega
  have HP := Lib.hid (fun A2 c2 W (hg : Chg Non w W) (h2 : Rd W A2 ([kind, UInt8.ofNat l.length] ++ l ++ List.replicate (58 - l.length) 0)) => (rCrcPut A2 _ c2 W h2 (by rw [hT]; omega)).mono (fun e w' h => RetB.from h hg))
  rw [hT] at HP
  clear hT
  have HS : Hid (sealL kind l = crcPut ([kind, UInt8.ofNat l.length] ++ l ++ List.replicate (58 - l.length) 0)) := Lib.hid rfl
  rw [HS.out]
  obtain ⟨Q, hQ⟩ : ∃ Q, crcPut ([kind, UInt8.ofNat l.length] ++ l ++ List.replicate (58 - l.length) 0) = Q := ⟨_, rfl⟩
  rw [hQ] at HP ⊢
  clear hQ HS
  go_enter Tryz.func51, Tryz.ntmps51
  go_wp2_with (first
    | (refine sel (some 13) (.call { callee := .builtin .append, args := #[.tmp 11, .tmp 12], argTypes := #[35, 35] }) ?_
       refine Hole1.out ?_))
  refine ⟨?_⟩
  have ho2 := ownB_two w.heap.size w kind (UInt8.ofNat l.length) (Nat.le_refl _)
  rw [hz] at ho2
  refine wpList_bytes rfl (.tmp 11) (.tmp 12) rfl w.heap.size _ [kind, UInt8.ofNat l.length] rfl ho2 A l c rfl (HR.out.non ((Chg.refl Non w).alloc _)) HN.out (by simp) (by omega) (by simp) ?_
  intro v2 w2 hO hg
  have HO := Lib.hid hO
  have HG := Lib.hid (((Chg.refl Non w).alloc _).then_new hg (fun x e => e))
  clear hO hg ho2
  go_wp2_with fail
  go_loopw [5] (fun v wr => ∃ j : Nat, j + l.length ≤ 58 ∧ OwnB w.heap.size wr v ([kind, UInt8.ofNat l.length] ++ l ++ List.replicate j 0) ∧ Chg Non w wr) (fun v _ => 60 - slLen v)
  case atStart => exact ⟨0, by omega, by simpa using HO.out, HG.out⟩
  case round =>
    obtain ⟨j, hj, hO, hC⟩ := hrel
    have hlen : ([kind, UInt8.ofNat l.length] ++ l ++ List.replicate j 0).length = l.length + j + 2 := by simp <;> omega
    obtain ⟨A2, c2, rfl, k1, k2, k3⟩ := hO.slice
    rw [hlen] at hO k1 ⊢
    have HO := Lib.hid hO
    have HC := Lib.hid hC
    have HK := Lib.hid k3.rd
    clear hO hC k3
    by_cases hlt : j + l.length < 58
    · have hd : decide (((l.length + j + 2 : Nat) : Int) < 60) = true := by simp; omega
      go_wp2_with (first
        | (refine sel (some 19) (.call { callee := .builtin .append, args := #[.tmp 17, .tmp 18], argTypes := #[35, 35] }) ?_
           refine Hole1.out ?_))
      refine ⟨?_⟩
      refine wpList_snoc rfl (.tmp 17) (.tmp 18) rfl w.heap.size _ _ rfl (HO.out.non ((Chg.refl _ _).alloc _)) wr.heap.size 0 rfl (by go_simp) (by rw [hlen]; omega) (by have := HC.out.size; simp; omega) ?_
      intro v3 w3 hO3 hg3
      have HG3 := Lib.hid ((HC.out.alloc _).then_new hg3 (fun x e => e))
      obtain ⟨A3, c3, rfl, _, _, _⟩ := hO3.slice
      have hlen3 : ([kind, UInt8.ofNat l.length] ++ l ++ List.replicate j 0 ++ [0]).length = l.length + j + 3 := by rw [List.length_append, hlen]; rfl
      rw [hlen3] at hO3 ⊢
      have HO3 := Lib.hid hO3
      clear hO3 hg3
      go_wp2_with fail
      case roundEnd =>
        refine ⟨⟨j + 1, by omega, ?_, HG3.out⟩, by simp [slLen]; omega⟩
        rw [List.replicate_succ', ← List.append_assoc]
        exact HO3.out
    · obtain rfl : j = 58 - l.length := by omega
      rw [show l.length + (58 - l.length) + 2 = 60 by omega]
      have HPut := Lib.hid (HP.out A2 c2 wr HC.out HK.out)
      go_wp2_with fail
      refine HPut.out.mono ?_
      rintro e u ⟨A4, c4, rfl, k4, k5, k6, k7⟩
      have HR4 := Lib.hid (show RetB w Q (.returned (.slice A4 Q.length c4)) u from ⟨A4, c4, rfl, k4, k5, k6, k7⟩)
      clear k4 k5 k6 k7
      go_wp2_with fail
      go_ret
      exact HR4.out
end Go.Proofs.YtgmpacndjmmgjaaGreat
end
section
namespace Go.Proofs.YtgmpacndjmmgjaaGreat
open Go.RowKit
set_option linter.unusedVariables false

theorem sealL_len (k : UInt8) (f : List UInt8) (h : f.length ≤ 58) : (sealL k f).length = 64 := by
  simp [sealL, crcPut, be_length]; omega

theorem crcOk_put (x : List UInt8) : crcOk (crcPut x) = true := by
  have hl : (crcPut x).length = x.length + 4 := by simp [crcPut, be_length]
  unfold crcOk
  rw [decide_eq_true_eq]
  refine ⟨by omega, ?_⟩
  rw [hl, Nat.add_sub_cancel]
  have : (crcPut x).take x.length = x := by simp [crcPut]
  rw [this]

theorem open_seal (k : UInt8) (f : List UInt8) (h : f.length ≤ 58) : openL k (sealL k f) = some f := by
  have hlen := sealL_len k f h
  have hsz : sizeL (sealL k f) = f.length := by
    simp [sizeL, sealL, crcPut, List.getD]
    omega
  have hd : ∀ t, (sealL k f).drop (2 + t) = (f ++ List.replicate (58 - f.length) 0 ++ be (crcSum ([k, UInt8.ofNat f.length] ++ f ++ List.replicate (58 - f.length) 0)) 4).drop t := by
    intro t
    simp [sealL, crcPut, Nat.add_comm 2 t]
  have hw : wholeL (sealL k f) = true := by
    unfold wholeL
    rw [hsz, decide_eq_true hlen, decide_eq_true h]
    simp only [Bool.true_and]
    rw [show crcOk (sealL k f) = true from crcOk_put _]
    simp only [Bool.true_and, decide_eq_true_eq]
    rw [hd, List.append_assoc, List.drop_left]
    rw [show 60 - (2 + f.length) = (List.replicate (58 - f.length) (0 : UInt8)).length by simp; omega]
    rw [List.take_left]
    simp
  have h0 : (sealL k f).getD 0 0 = k := by simp [sealL, crcPut]
  unfold openL
  rw [if_pos ⟨hw, h0⟩, hsz]
  have := hd 0
  rw [Nat.add_zero, List.drop_zero] at this
  rw [this, List.append_assoc, List.take_left]

theorem i64_u64 (n : Int) (h1 : -9223372036854775808 ≤ n) (h2 : n ≤ 9223372036854775807) : i64 (u64 n) = n := by
  unfold i64 wrap64 u64
  omega

theorem rdInt_be (n : Int) (r : List UInt8) (h1 : -9223372036854775808 ≤ n) (h2 : n ≤ 9223372036854775807) : rdInt (be (u64 n) 8 ++ r) 0 = (n, r, 0) := by
  have hl : (be (u64 n) 8).length = 8 := be_length _ _
  unfold rdInt
  rw [if_pos rfl, if_pos (by rw [List.length_append, hl]; omega)]
  have ht : (be (u64 n) 8 ++ r).take 8 = be (u64 n) 8 := by rw [List.take_append_of_le_length (by omega), List.take_of_length_le (by omega)]
  have hdr : (be (u64 n) 8 ++ r).drop 8 = r := by
    have := List.drop_left (l₁ := be (u64 n) 8) (l₂ := r)
    rw [hl] at this
    exact this
  rw [ht, hdr, num_be _ _ (u64_lt n), i64_u64 n h1 h2]

end Go.Proofs.YtgmpacndjmmgjaaGreat
end
section
namespace Go.Proofs.YtgmpacndjmmgjaaGreat
open Go.RowKit
set_option linter.unusedVariables false

theorem seal_whole (kind : UInt8) (s : List UInt8) (h64 : s.length = 64) (h0 : s.getD 0 0 = kind) (h1 : sizeL s ≤ 58) : sealL kind ((s.drop 2).take (sizeL s)) = s ↔ wholeL s = true := by
  have hbl : ((s.drop 2).take (sizeL s)).length = sizeL s := by rw [List.length_take, List.length_drop]; omega
  constructor
  · intro h
    have ho := open_seal kind ((s.drop 2).take (sizeL s)) (by omega)
    rw [h] at ho
    unfold openL at ho
    split at ho
    · rename_i hw; exact hw.1
    · cases ho
  · intro hw
    unfold wholeL at hw
    simp only [Bool.and_eq_true, decide_eq_true_eq] at hw
    obtain ⟨_, hc, _, hz⟩ := hw
    unfold crcOk at hc
    rw [decide_eq_true_eq, h64] at hc
    have hc2 := hc.2
    have ht : [kind, UInt8.ofNat ((s.drop 2).take (sizeL s)).length] ++ (s.drop 2).take (sizeL s) ++ List.replicate (58 - ((s.drop 2).take (sizeL s)).length) 0 = s.take (64 - 4) := by
      rw [hbl, show 58 - sizeL s = 60 - (2 + sizeL s) by omega, ← hz]
      match s, h64 with
      | x :: y :: r, h64 =>
        have hx : x = kind := by simpa using h0
        have hy : UInt8.ofNat (sizeL (x :: y :: r)) = y := by
          apply UInt8.toNat_inj.1
          simp [sizeL]
        rw [hy, hx]
        obtain ⟨n, hn⟩ : ∃ n, sizeL (x :: y :: r) = n := ⟨_, rfl⟩
        rw [hx] at hn
        rw [hn]
        have hn58 : n ≤ 58 := by rw [hx, hn] at h1; exact h1
        have e1 : (kind :: y :: r).drop (2 + n) = r.drop n := by rw [Nat.add_comm]; rfl
        have e2 : (kind :: y :: r).drop 2 = r := rfl
        rw [e1, e2]
        have e3 : r.take 58 = r.take n ++ (r.drop n).take (58 - n) := by
          have := List.take_add (l := r) (i := n) (j := 58 - n)
          rw [show n + (58 - n) = 58 by omega] at this
          exact this
        show kind :: y :: (r.take n ++ (r.drop n).take (60 - (2 + n))) = kind :: y :: r.take 58
        rw [e3, show 60 - (2 + n) = 58 - n by omega]
    unfold sealL
    rw [ht]
    exact hc2
end Go.Proofs.YtgmpacndjmmgjaaGreat
end
section
namespace Go.Proofs.YtgmpacndjmmgjaaGreat
open Go.RowKit
set_option linter.unusedVariables false

set_option maxRecDepth 100000 in
set_option maxHeartbeats 400000 in
theorem rCatNil (A : Option Addr) (c : Nat) (w : World) : Calls Tryz.prog 66 #[.slice none 0 0, .slice A 0 c] w fun e w' => e = .returned (.slice none 0 0) ∧ w = w' := by
  go_enter Tryz.func66, Tryz.ntmps66
  go_wp2_with fail
  refine wp_loop_rounds 1 ?_
  rw [rounds_succ]
  go_wp2_with fail
  refine wp_loop_rounds 1 ?_
  rw [rounds_succ]
  go_wp2_with fail
  go_ret
  exact ⟨rfl, rfl⟩

set_option maxRecDepth 100000 in
set_option maxHeartbeats 400000 in
theorem rCopyNil (A : Option Addr) (c : Nat) (w : World) : Calls Tryz.prog 36 #[.slice A 0 c] w fun e w' => e = .returned (.slice none 0 0) ∧ w = w' := by
  have HC := Lib.hid (rCatNil A c w)
  go_enter Tryz.func36, Tryz.ntmps36
  go_wp2_with fail
  refine HC.out.mono ?_
  rintro e u ⟨rfl, rfl⟩
  go_wp2_with fail
  go_ret
  exact ⟨rfl, rfl⟩

/-- a copy; none of nothing -/
theorem rCopyN (A : Option Addr) (l : List UInt8) (c : Nat) (w : World) (h : Rd w A l) (hl : l.length ≤ 1000000) :
    Calls Tryz.prog 36 #[.slice A l.length c] w fun e w' => ∃ A2 c2, e = .returned (.slice A2 l.length c2) ∧ (l = [] → A2 = none ∧ c2 = 0) ∧ l.length ≤ c2 ∧ c2 ≤ maxLen ∧ Own w.heap.size w' A2 l ∧ Chg Non w w' := by
  by_cases hz : l = []
  · subst hz
    refine (rCopyNil A c w).mono ?_
    rintro e u ⟨rfl, rfl⟩
    exact ⟨none, 0, rfl, fun _ => ⟨rfl, rfl⟩, Nat.le_refl _, by simp, Own.nil _ _ _, Chg.refl _ _⟩
  · refine (rCopy A l c w h hl).mono ?_
    rintro e u ⟨A2, c2, rfl, h1, h2, h3, h4⟩
    exact ⟨A2, c2, rfl, fun e => absurd e hz, h1, h2, h3, h4⟩

/-- what Open answers -/
def ROpen (kind : UInt8) (s : List UInt8) (w : World) (e : Ending) (w' : World) : Prop :=
  ((∃ A c m, openL kind s = some m ∧ e = .returned (.tuple #[.slice A m.length c, .int .i64 0]) ∧ m.length ≤ c ∧ c ≤ maxLen ∧ Own w.heap.size w' A m) ∨ (openL kind s = none ∧ e = .returned (.tuple #[.slice none 0 0, .int .i64 70]))) ∧ Chg Non w w'

set_option maxRecDepth 100000 in
set_option maxHeartbeats 2000000 in
theorem rOpen (kind : UInt8) (A : Option Addr) (s : List UInt8) (cap : Nat) (w : World) (hr : Rd w A s) (h64 : s.length = 64) (hcap : 64 ≤ cap) (hm : cap ≤ maxLen) :
    Calls Tryz.prog 59 #[.int .u8 (kind.toNat : Int), .slice A 64 cap] w (ROpen kind s w) := by
  obtain ⟨b, o, rfl, hb, hc⟩ := hr.at_ (by omega)
  have hc0 := hc 0 (by omega)
  have hc1 := hc 1 (by omega)
  rw [Nat.add_zero] at hc0
  have h00 : s.getD 0 0 = s[0] := by rw [List.getD, List.getElem?_eq_getElem (by omega)]; rfl
  have h01 : sizeL s = s[1].toNat := by unfold sizeL; rw [List.getD, List.getElem?_eq_getElem (by omega)]; rfl
  have hk := kind.toNat_lt
  unfold maxLen at hm
  clear hc
  by_cases hkk : s[0] = kind
  case neg =>
    have hno : openL kind s = none := by unfold openL; rw [if_neg (fun h => hkk (by rw [← h00]; exact h.2))]
    have hd : ((s[0].toNat : Int) != (kind.toNat : Int)) = true := by
      rw [bne_iff_ne]; intro e; exact hkk (UInt8.toNat_inj.1 (by omega))
    have HP : Hid (ROpen kind s w (.returned (.tuple #[.slice none 0 0, .int .i64 70])) w) := Lib.hid ⟨.inr ⟨hno, rfl⟩, Chg.refl _ _⟩
    clear hno
    go_enter Tryz.func59, Tryz.ntmps59
    go_wp2_with fail
    go_ret2
    exact HP.out
  have hd : ((s[0].toNat : Int) != (kind.toNat : Int)) = false := by rw [hkk]; simp
  by_cases hn : 58 < s[1].toNat
  · have hno : openL kind s = none := by
      unfold openL
      rw [if_neg]
      rintro ⟨h, _⟩
      have := wholeL_size h
      omega
    have hd1 : decide (58 < (s[1].toNat : Int)) = true := by simp; omega
    have HP : Hid (ROpen kind s w (.returned (.tuple #[.slice none 0 0, .int .i64 70])) w) := Lib.hid ⟨.inr ⟨hno, rfl⟩, Chg.refl _ _⟩
    clear hno
    go_enter Tryz.func59, Tryz.ntmps59
    go_wp2_with fail
    go_ret2
    exact HP.out
  have hd1 : decide (58 < (s[1].toNat : Int)) = false := by simp; omega
  have hiff := seal_whole kind s h64 (by rw [h00]; exact hkk) (by rw [h01]; omega)
  have hop : openL kind s = if wholeL s = true then some ((s.drop 2).take (sizeL s)) else none := by
    unfold openL
    have : s.getD 0 0 = kind := by rw [h00]; exact hkk
    by_cases hw : wholeL s = true
    · rw [if_pos ⟨hw, this⟩, if_pos hw]
    · rw [if_neg (fun h => hw h.1), if_neg hw]
  have hr2 : Rd w (some ⟨b, o + 2, none⟩) ((s.drop 2).take (sizeL s)) := (hr.drop 2).take (sizeL s)
  have hml : ((s.drop 2).take (sizeL s)).length = s[1].toNat := by rw [List.length_take, List.length_drop, h01]; omega
  obtain ⟨m, hmm⟩ : ∃ m, (s.drop 2).take (sizeL s) = m := ⟨_, rfl⟩
  rw [hmm] at hiff hop hr2 hml
  have HC := Lib.hid (fun c2 => rCopyN (some ⟨b, o + 2, none⟩) m c2 w hr2 (by omega))
  have HSl := Lib.hid (fun A2 c2 W (h2 : Rd W A2 m) (hN : m = [] → A2 = none ∧ c2 = 0) => rSeal kind A2 m c2 W h2 hN (by omega))
  have hsl : (sealL kind m).length = 64 := sealL_len _ _ (by omega)
  have HSa := Lib.hid (fun A2 c2 W (hg : Chg Non w W) (h2 : Rd W A2 (sealL kind m)) => rSame A2 (sealL kind m) c2 (some ⟨b, o, none⟩) s cap W h2 (hr.non hg) (by omega) (by omega))
  rw [h64] at HSa
  have HOp := Lib.hid hop
  have HIff := Lib.hid hiff
  obtain ⟨z, hz⟩ : ∃ z : Nat, s[1].toNat = z := ⟨_, rfl⟩
  rw [hz] at hc1 hd1 hml hn
  have hw2 : IntKind.i64.wrap (2 + (z : Int)) = ((2 + z : Nat) : Int) := by rw [Go.IntWalk.i64_in _ (by omega)]; omega
  have hcv : IntKind.i64.wrap (z : Int) = (z : Int) := Go.IntWalk.i64_in _ (by omega)
  rw [hml] at HC HSl
  obtain ⟨L, hL⟩ : ∃ L, sealL kind m = L := ⟨_, rfl⟩
  rw [hL] at HSl HSa HIff hsl
  rw [hsl] at HSa
  have HML := Lib.hid hml
  have HSL := Lib.hid hsl
  clear hop hiff hr2 hmm hml h00 h01 hz hL hsl
  go_enter Tryz.func59, Tryz.ntmps59
  go_wp2_with fail
  refine (HC.out _).mono ?_
  rintro e u ⟨A2, c2, rfl, hN, k1, k2, hO, hg⟩
  have HN := Lib.hid hN
  have HO := Lib.hid hO
  have HG := Lib.hid hg
  have HK := Lib.hid (And.intro k1 k2)
  clear hN hO hg k1 k2
  go_wp2_with fail
  refine (HSl.out A2 c2 u HO.out.rd HN.out).mono ?_
  rintro e u2 ⟨A3, c3, rfl, j1, j2, j3, j4⟩
  have HR3 := Lib.hid j3.rd
  have HG2 := Lib.hid (HG.out.then_non j4)
  have HG3 := Lib.hid j4
  rw [HSL.out]
  clear j1 j2 j3 j4
  go_wp2_with fail
  refine (HSa.out A3 c3 u2 HG2.out HR3.out).mono ?_
  rintro e u3 ⟨rfl, hg3⟩
  by_cases hw : wholeL s = true
  · have hLs : decide (L = s) = true := by rw [decide_eq_true_eq]; exact HIff.out.2 hw
    have HP : Hid (ROpen kind s w (.returned (.tuple #[.slice A2 z c2, .int .i64 0])) u3) := Lib.hid ⟨.inl ⟨A2, c2, m, by rw [HOp.out, if_pos hw], by rw [HML.out], HML.out ▸ HK.out.1, HK.out.2, (HO.out.non HG3.out).non hg3⟩, HG2.out.then_non hg3⟩
    clear hg3
    rw [hLs]
    clear hLs
    go_wp2_with fail
    go_ret2
    exact HP.out
  · have hLs : decide (L = s) = false := by rw [decide_eq_false_iff_not]; exact fun e => hw (HIff.out.1 e)
    have HP : Hid (ROpen kind s w (.returned (.tuple #[.slice none 0 0, .int .i64 70])) u3) := Lib.hid ⟨.inr ⟨by rw [HOp.out, if_neg hw], rfl⟩, HG2.out.then_non hg3⟩
    clear hg3
    rw [hLs]
    clear hLs
    go_wp2_with fail
    go_ret2
    exact HP.out
end Go.Proofs.YtgmpacndjmmgjaaGreat
end
section
namespace Go.Proofs.YtgmpacndjmmgjaaGreat
open Go.RowKit
set_option linter.unusedVariables false

/-- a slot as a byte -/
def slotB (r : Rec) : UInt8 := if r.slot = 1 then 1 else 0

/-- a record's form -/
def recForm (r : Rec) : List UInt8 := be (u64 r.seqn) 8 ++ [slotB r] ++ be (u64 r.len) 8 ++ [flagB r.trial] ++ r.hash
theorem recForm_len (r : Rec) (h : r.hash.length = 32) : (recForm r).length = 50 := by simp [recForm, be_length, h]

/-- the boxed record is kept -/
def HeldR (g : Nat) (sq sl ln : Int) (tr : Bool) (ha : List UInt8) (w' : World) : Prop :=
  w'.cell? ⟨g, 0, none⟩ = some (.int .i64 sq) ∧ w'.cell? ⟨g, 1, none⟩ = some (.int .i64 sl) ∧ w'.cell? ⟨g, 2, none⟩ = some (.int .i64 ln) ∧ w'.cell? ⟨g, 3, none⟩ = some (.bool tr) ∧ w'.rangeAt g 4 (ha.map bv)
theorem HeldR.keep {g : Nat} {sq sl ln : Int} {tr : Bool} {ha : List UInt8} {w w' : World} (h : HeldR g sq sl ln tr ha w) (hc : ∀ o, w'.cell? ⟨g, o, none⟩ = w.cell? ⟨g, o, none⟩) : HeldR g sq sl ln tr ha w' := by
  obtain ⟨h0, h1, h2, h3, h4⟩ := h
  exact ⟨(hc 0).trans h0, (hc 1).trans h1, (hc 2).trans h2, (hc 3).trans h3, fun j v hv => (hc _).trans (h4 j v hv)⟩
theorem heldR_new (r : Rec) (w : World) (t : TypeId) : HeldR w.heap.size r.seqn r.slot r.len r.trial r.hash (w.alloc (.cells (recA r) t)) := by
  refine ⟨?_, ?_, ?_, ?_, ?_⟩
  · rw [cell_of_row _ _ _ _ _ _ (heap_alloc_new _ _)]; exact recA_0 r
  · rw [cell_of_row _ _ _ _ _ _ (heap_alloc_new _ _)]; exact recA_1 r
  · rw [cell_of_row _ _ _ _ _ _ (heap_alloc_new _ _)]; exact recA_2 r
  · rw [cell_of_row _ _ _ _ _ _ (heap_alloc_new _ _)]; exact recA_3 r
  · intro j v hv
    rw [cell_of_row _ _ _ _ _ _ (heap_alloc_new _ _), ← Array.getElem?_toList, recA_list]
    rw [List.getElem?_append_right (by simp)]
    simpa using hv

set_option maxRecDepth 100000 in
set_option maxHeartbeats 4000000 in
theorem sector_any (r : Rec) (w : World) (hs : r.slot = 0 ∨ r.slot = 1) (hh : r.hash.length = 32) :
    Calls Tryz.prog 39 #[.agg (recA r)] w (RetB w (sealL 1 (recForm r))) := by
  have HF := Lib.hid (recForm_len r hh)
  have hform : be (u64 r.seqn) 8 ++ [slotB r] ++ be (u64 r.len) 8 ++ [flagB r.trial] ++ r.hash = recForm r := rfl
  have HFm := Lib.hid hform
  have HN := Lib.hid (heldR_new r w 34)
  have hsl : ((slotB r).toNat : Int) = IntKind.u8.wrap r.slot := by
    unfold slotB
    rcases hs with h | h
    · rw [h]; decide
    · rw [h]; decide
  have HSl := Lib.hid hsl
  clear hform hs hsl
  have hut := Tryz.underlying32
  have hit : (Tryz.prog.info? 32).map (·.size) = some (r.hash.map bv).length := by rw [List.length_map, hh]; exact info_tag
  obtain ⟨X, hX⟩ : ∃ X, recA r = X := ⟨_, rfl⟩
  rw [hX] at HN ⊢
  clear hX
  obtain ⟨F, hF⟩ : ∃ F, recForm r = F := ⟨_, rfl⟩
  rw [hF] at HF HFm ⊢
  clear hF
  obtain ⟨sb, hsb⟩ : ∃ sb, slotB r = sb := ⟨_, rfl⟩
  rw [hsb] at HSl HFm
  clear hsb
  obtain ⟨sq, sl, ln, tr, ha⟩ := r
  simp only at hh hit HN HSl HFm
  go_enter Tryz.func39, Tryz.ntmps39
  go_wp2_with fail
  obtain ⟨W0, hW0⟩ : ∃ W0, w.alloc (.cells X 34) = W0 := ⟨_, rfl⟩
  have hc0 : Chg Non w W0 := by rw [← hW0]; exact (Chg.refl _ _).alloc _
  have hlt : w.heap.size < W0.heap.size := by rw [← hW0]; simp
  obtain ⟨g, hg0⟩ : ∃ g, w.heap.size = g := ⟨_, rfl⟩
  rw [hW0, hg0] at HN
  rw [hg0] at hlt
  rw [hW0, hg0]
  have HC0 := Lib.hid hc0
  clear hW0 hc0
  obtain ⟨k0, k1, k2, k3, hrow⟩ := HN.out
  go_region_held3 (fun w' => w'.cell? ⟨g, 0, none⟩ = some (.int .i64 sq) ∧ w'.cell? ⟨g, 1, none⟩ = some (.int .i64 sl) ∧ w'.cell? ⟨g, 2, none⟩ = some (.int .i64 ln) ∧ w'.cell? ⟨g, 3, none⟩ = some (.bool tr) ∧ w'.rangeAt g 4 (ha.map bv))
    (first | go_keep | exact HN.out.keep HC.out)
    (first
      | (go_at_call 67
         refine (NewWriter_any _).mono ?_
         rintro e w1 ⟨rfl, hW, hg⟩
         have HG := Lib.hid (hg.below_non)
         have HC := Lib.hid (fun o => hg.cell (p := ⟨g, o, none⟩) hlt (fun e => e))
         clear hg)
      | (go_at_call 68
         refine (WInt_room _ _ _ _ _ hW (by simp [be_length])).mono ?_
         rintro e w1 ⟨rfl, hW, hg⟩
         have HC := Lib.hid (fun o => (hg.cell (p := ⟨g, o, none⟩) hlt).trans (HC.out o))
         have HG := Lib.hid (HG.out.trans hg)
         clear hg)
      | (go_at_call 69
         rw [← HSl.out]
         refine (WByte_room _ _ _ _ _ hW (by simp [be_length])).mono ?_
         rintro e w1 ⟨rfl, hW, hg⟩
         have HC := Lib.hid (fun o => (hg.cell (p := ⟨g, o, none⟩) hlt).trans (HC.out o))
         have HG := Lib.hid (HG.out.trans hg)
         clear hg)
      | (go_at_call 70
         refine (WFlag_room _ _ _ _ _ hW (by simp [be_length])).mono ?_
         rintro e w1 ⟨rfl, hW, hg⟩
         have HC := Lib.hid (fun o => (hg.cell (p := ⟨g, o, none⟩) hlt).trans (HC.out o))
         have HG := Lib.hid (HG.out.trans hg)
         clear hg)
      | (go_at_call 71
         refine (WTag_room _ _ _ _ _ hh hW (by simp [be_length])).mono ?_
         rintro e w1 ⟨rfl, hW, hg⟩
         have HC := Lib.hid (fun o => (hg.cell (p := ⟨g, o, none⟩) hlt).trans (HC.out o))
         have HG := Lib.hid (HG.out.trans hg)
         clear hg)
      | (go_at_call 72
         rw [List.nil_append, HFm.out] at hW
         refine (WDone_ok _ _ _ _ hW (by rw [HF.out]; omega)).mono ?_
         rintro e w1 ⟨A1, c1, rfl, hc1, hm1, ho1, hg⟩
         have HC := Lib.hid (fun o => (hg.cell (p := ⟨g, o, none⟩) (Nat.lt_of_lt_of_le hlt HG.out.size) (fun e => e)).trans (HC.out o))
         have HG := Lib.hid (HG.out.trans (hg.below (fun _ e => e.elim) HG.out.size))
         clear hg))
  have hgw : Chg Non w w1 := HC0.out.then_non ((Chg.refl Non W0).drew.then_non (Chg.of_below HG.out (Nat.le_refl _)))
  have HS := Lib.hid (Seal_any 1 A1 F c1 w1 ho1.rd (by rw [HF.out]; omega))
  go_wp2_with fail
  refine HS.out.mono ?_
  rintro e w2 ⟨A2, c2, rfl, hc2, hm2, ho2, hg2⟩
  go_wp2
  go_ret
  exact ⟨A2, c2, rfl, hc2, hm2, ho2.mono hgw.size, hgw.then_non hg2⟩
end Go.Proofs.YtgmpacndjmmgjaaGreat
end
section
namespace Go.Proofs.YtgmpacndjmmgjaaGreat
open Go.RowKit
set_option linter.unusedVariables false

/-- what the readings of a form come to: the record, what is left, the error -/
def recFields (m : List UInt8) : Rec × List UInt8 × Int :=
  let a := rdInt m 0
  let b := rdByte a.2.1 a.2.2
  let c := rdInt b.2.1 b.2.2
  let d := rdFlag c.2.1 c.2.2
  let e := rdTag d.2.1 d.2.2
  (⟨a.1, (b.1.toNat : Int), c.1, d.1, e.1⟩, e.2.1, e.2.2)

/-- the record of a sector, and whether it is one's -/
def recRd (s : List UInt8) : Rec × Bool :=
  let f := recFields ((openL 1 s).getD [])
  (f.1, (openL 1 s).isSome && (decide (f.2.2 = 0) && decide (f.2.1 = [])) && f.1.may)

theorem recFields_hash (m : List UInt8) : (recFields m).1.hash.length = 32 := rdTag_len _ _

theorem recFields_split (m : List UInt8) : ∃ x1 l1 e1 x2 l2 e2 x3 l3 e3 x4 l4 e4 x5 l5 e5, rdInt m 0 = (x1, l1, e1) ∧ rdByte l1 e1 = (x2, l2, e2) ∧ rdInt l2 e2 = (x3, l3, e3) ∧ rdFlag l3 e3 = (x4, l4, e4) ∧ rdTag l4 e4 = (x5, l5, e5) ∧
    recFields m = (⟨x1, (x2.toNat : Int), x3, x4, x5⟩, l5, e5) :=
  ⟨_, _, _, _, _, _, _, _, _, _, _, _, _, _, _, rfl, rfl, rfl, rfl, rfl, rfl⟩

theorem fold_set_get (k : Nat) (L : List Value) (j : Nat) (C : Array Value) (i : Nat) :
    (List.foldl (fun (cs : Array Value) (x : Value × Nat) => cs.setIfInBounds (k + x.2) x.1) C (L.zipIdx j))[i]? = if k + j ≤ i ∧ i < k + j + L.length ∧ i < C.size then L[i - (k + j)]? else C[i]? := by
  induction L generalizing j C with
  | nil => simp; omega
  | cons v r ih =>
    rw [List.zipIdx_cons, List.foldl_cons, ih]
    simp only [Array.size_setIfInBounds, List.length_cons]
    by_cases h1 : k + (j + 1) ≤ i ∧ i < k + (j + 1) + r.length ∧ i < C.size
    · rw [if_pos h1, if_pos (by omega), show i - (k + j) = (i - (k + (j + 1))) + 1 by omega, List.getElem?_cons_succ]
    · rw [if_neg h1, Array.getElem?_setIfInBounds]
      by_cases h2 : k + j = i
      · subst h2
        by_cases h3 : k + j < C.size
        · rw [if_pos rfl, if_pos h3, if_pos (by omega), Nat.sub_self]; rfl
        · rw [if_pos rfl, if_neg h3, if_neg (by omega), Array.getElem?_eq_none (by omega)]
      · rw [if_neg h2, if_neg (by omega)]

theorem rec_build (C : Array Value) (x1 x2 x3 : Int) (x4 : Bool) (x5 : List UInt8) (h : x5.length = 32) (h0 : C.size = 36) (h1 : C[0]? = some (.int .i64 x1)) (h2 : C[1]? = some (.int .i64 x2)) (h3 : C[2]? = some (.int .i64 x3)) (h4 : C[3]? = some (.bool x4)) :
    Array.foldl (fun (cs : Array Value) (x : Value × Nat) => cs.setIfInBounds (4 + x.2) x.1) C (tagA x5).zipIdx 0 32 = recA ⟨x1, x2, x3, x4, x5⟩ := by
  have e : 32 = (tagA x5).zipIdx.size := by simp [tagA_size x5 h]
  rw [e, ← Array.foldl_toList, Array.toList_zipIdx]
  apply Array.ext_getElem?
  intro i
  rw [fold_set_get, h0]
  have hl : (tagA x5).toList.length = 32 := by simp [tagA, h]
  rw [hl]
  unfold recA
  by_cases hi : 4 + 0 ≤ i ∧ i < 4 + 0 + 32 ∧ i < 36
  · rw [if_pos hi, Array.getElem?_append_right (by simp; omega), Array.getElem?_toList]
    rfl
  · rw [if_neg hi]
    by_cases h36 : i < 36
    · have : i = 0 ∨ i = 1 ∨ i = 2 ∨ i = 3 := by omega
      rw [Array.getElem?_append_left (by simp; omega)]
      rcases this with rfl | rfl | rfl | rfl
      · exact h1
      · exact h2
      · exact h3
      · exact h4
    · rw [Array.getElem?_eq_none (by omega), Array.getElem?_eq_none (by rw [Array.size_append, tagA_size _ h]; simp; omega)]

/-- the record read lies in block b, the result's place is block g -/
def Both (b g : Nat) (X : Array Value) (w' : World) : Prop :=
  w'.heap[b]? = some (.cells X 34 (0, 0)) ∧ ∃ old, w'.heap[g]? = some (.cells old 34 (0, 0)) ∧ old.size = 36
theorem Both.non {b g : Nat} {X : Array Value} {w w' : World} (h : Both b g X w) (hg : Chg Non w w') : Both b g X w' := by
  obtain ⟨h1, old, h2, h3⟩ := h
  exact ⟨(hg.block b (Array.getElem?_eq_some_iff.1 h1).1 (fun e => e)).trans h1, old, (hg.block g (Array.getElem?_eq_some_iff.1 h2).1 (fun e => e)).trans h2, h3⟩
theorem Both.row {b g : Nat} {X : Array Value} {w : World} (h : Both b g X w) (hx : X.size = 36) (hne : b ≠ g) : Both b g X (w.setRow g X) := by
  obtain ⟨h1, old, h2, h3⟩ := h
  exact ⟨(setRow_other w g b X hne).trans h1, X, setRow_heap _ _ _ _ _ _ h2, hx⟩
theorem Both.old {b g : Nat} {X : Array Value} {w : World} (h : Both b g X w) (hx : X.size = 36) : ∃ old : Array Value, w.heap[g]? = some (.cells old 34 (0, 0)) ∧ old.size = X.size := by
  obtain ⟨_, old, h1, h2⟩ := h
  exact ⟨old, h1, by rw [h2, hx]⟩
theorem Both.range {b g : Nat} {X : Array Value} {w : World} (h : Both b g X w) : w.rangeAt b 0 X.toList := fun j v hv => by
  rw [cell_of_row _ _ _ _ _ _ h.1, Nat.zero_add]
  simpa using hv
theorem Both.put {b g : Nat} {X : Array Value} {w W : World} (h : Both b g X w) (hx : X.size = 36) (hne : b ≠ g) (hg : Chg (fun k => k = g) w W) (hb : W.heap[g]? = some (.cells X 34 (0, 0))) : Both b g X W :=
  ⟨(hg.block b (Array.getElem?_eq_some_iff.1 h.1).1 hne).trans h.1, X, hb, hx⟩

set_option maxRecDepth 100000 in

set_option maxHeartbeats 4000000 in
theorem recRead_core (A1 : Option Addr) (m : List UInt8) (c1 : Nat) (hm : m.length ≤ 65536) (er0 : Int) (A : Option Addr) (l : List UInt8) (cap : Nat) (w : World)
    (hO : ∀ W, Chg Non w W → Calls Tryz.prog 52 #[.int .u8 1, .slice A l.length cap] W fun e w' => ∃ A1 c1, e = .returned (.tuple #[.slice A1 m.length c1, .int .i64 er0]) ∧ Rd w' A1 m ∧ Chg Non W w') :
    Calls Tryz.prog 32 #[.slice A l.length cap] w fun e w' => e = .returned (.tuple #[.agg (recA (recFields m).1), .bool (decide (er0 = 0) && (decide ((recFields m).2.2 = 0) && decide ((recFields m).2.1 = [])) && (recFields m).1.may)]) ∧ Chg Non w w' := by
  have HO := Lib.hid hO
  have HN := Lib.hid (fun A W c h => NewReader_ok A m c W h hm)
  clear hO
  obtain ⟨x1, l1, e1, x2, l2, e2, x3, l3, e3, x4, l4, e4, x5, l5, e5, hq1, hq2, hq3, hq4, hq5, hq⟩ := recFields_split m
  rw [hq]
  simp only
  have hR1 := fun p W h => RInt_any p m 0 W h
  have hR2 := fun p W h => RByte_any p l1 e1 W h
  have hR3 := fun p W h => RInt_any p l2 e2 W h
  have hR4 := fun p W h => RFlag_any p l3 e3 W h
  have hR5 := fun p W h => RTag_any p l4 e4 W h
  have hx5 := rdTag_len l4 e4
  rw [hq1] at hR1
  rw [hq2] at hR2
  rw [hq3] at hR3
  rw [hq4] at hR4
  rw [hq5] at hR5 hx5
  simp only at hR1 hR2 hR3 hR4 hR5 hx5
  have H1 := Lib.hid hR1
  have H2 := Lib.hid hR2
  have H3 := Lib.hid hR3
  have H4 := Lib.hid hR4
  have H5 := Lib.hid hR5
  have HX5 := Lib.hid hx5
  clear hR1 hR2 hR3 hR4 hR5 hq1 hq2 hq3 hq4 hq5 hq hx5
  have hb2 : (0 : Int) ≤ (x2.toNat : Int) ∧ (x2.toNat : Int) < 256 := by have := x2.toNat_lt; omega
  have hxs := recA_size ⟨x1, (x2.toNat : Int), x3, x4, x5⟩ HX5.out
  have hx1 := recA_one ⟨x1, (x2.toNat : Int), x3, x4, x5⟩
  have hm := May_any ⟨x1, (x2.toNat : Int), x3, x4, x5⟩
  obtain ⟨X, hX⟩ : ∃ X, recA ⟨x1, (x2.toNat : Int), x3, x4, x5⟩ = X := ⟨_, rfl⟩
  rw [hX] at hm hxs hx1 ⊢
  obtain ⟨y, hy⟩ : ∃ y, (⟨x1, (x2.toNat : Int), x3, x4, x5⟩ : Rec).may = y := ⟨_, rfl⟩
  rw [hy] at hm ⊢
  have hE := fun W h => End_any w.heap.size l5 e5 W h
  have hE := fun p W h => End_any p l5 e5 W h
  obtain ⟨er, her⟩ : ∃ er, (if e5 = 0 ∧ l5 ≠ [] then (50 : Int) else e5) = er := ⟨_, rfl⟩
  rw [her] at hE
  have hok : (decide (e5 = 0) && decide (l5 = [])) = decide (er = 0) := by
    rw [← her]
    by_cases a : e5 = 0
    · by_cases b : l5 = []
      · simp [a, b]
      · simp [a, b]
    · simp [a]
  rw [hok]
  have HM := Lib.hid hm
  have HE := Lib.hid hE
  have HXS := Lib.hid hxs
  have HX1 := Lib.hid hx1
  have HX := Lib.hid hX
  clear hm hE hxs hx1 hX hy her hok
  go_enter Tryz.func32, Tryz.ntmps32
  go_wp2_with fail
  refine (HO.out _ ((Chg.refl _ _).alloc _)).mono ?_
  rintro e w1 ⟨A1, c1, rfl, ho1, hg1⟩
  go_wp2_with fail
  refine (HN.out A1 w1 c1 ho1).mono ?_
  rintro e w2 ⟨rfl, hR2, hg2⟩
  go_wp2_with fail
  refine (H1.out _ _ hR2).mono ?_
  rintro e w3 ⟨rfl, hR3, hg3⟩
  go_wp2_with fail
  refine (H2.out _ _ hR3).mono ?_
  rintro e w4 ⟨rfl, hR4, hg4⟩
  go_wp2_with fail
  refine (H3.out _ _ hR4).mono ?_
  rintro e w5 ⟨rfl, hR5, hg5⟩
  go_wp2_with fail
  refine (H4.out _ _ hR5).mono ?_
  rintro e w6 ⟨rfl, hR6, hg6⟩
  go_wp2_with fail
  refine (H5.out _ _ hR6).mono ?_
  rintro e w7 ⟨rfl, hR7, hg7⟩
  clear hR2 hR3 hR4 hR5 hR6
  have hts := tagA_size x5 HX5.out
  go_wp2_with (first
    | (refine sel (some 26) (.build 34 #[(0, .tmp 16), (1, .tmp 19), (2, .tmp 21), (3, .tmp 23), (4, .tmp 25)]) ?_
       refine wpList_plain rfl (fun K hK => ?_)
       go_simp
       rw [rec_build _ x1 x2.toNat x3 x4 x5 HX5.out rfl rfl rfl rfl rfl, HX.out]
       refine hK _ _ ?_
       clear hK hts)
    | (refine sel none (.store 34 (.tmp 7) (.tmp 26)) ?_
       refine wpList_store_rowA rfl 34 (.tmp 7) (.tmp 26) rfl w7.heap.size X rfl rfl 34 _ (heap_alloc_new _ _) (by rw [HXS.out]; exact info_rec) (by rw [HXS.out]; rfl) HX1.out ?_
       intro W hgW hbW
       have HB := Lib.hid hbW
       have HGW := Lib.hid hgW
       clear hbW hgW))
  have hch : Chg (At w1.heap.size) w2 w7 := (((hg3.trans_same hg4).trans_same hg5).trans_same hg6).trans_same hg7
  have hg17 : Chg Non (w.alloc (.cells recZ 34)) w7 := ((hg1.then_non hg2)).then_new hch (fun x e => by unfold At at e; have := hg1.size; omega)
  have hz7 : w7.heap[w.heap.size]? = some (.cells recZ 34 (0, 0)) := new_block hg17
  have hlt7 : w.heap.size < w7.heap.size := (Array.getElem?_eq_some_iff.1 hz7).1
  have hbth : Both w7.heap.size w.heap.size X W := by
    refine ⟨HB.out, recZ, ?_, recA_size _ zTag_len⟩
    rw [HGW.out.block _ (by simp; omega) (by omega), Below.heap_alloc _ _ _ hlt7]
    exact hz7
  have hRW : IsR W w1.heap.size l5 e5 := by
    have h1 := fun o => hR7.below.keep ((Chg.refl Non w7).alloc o) (fun e => e) (fun _ _ e => e)
    exact ((h1 _).keep HGW.out (by have := hR7.below.lt; omega) (fun b hb e => by omega)).isR
  have hgW : Chg Non w W := (((Chg.refl Non w).alloc _).then_non hg17).trans (((Chg.refl Non w7).alloc _).then_new HGW.out (fun x e => by omega)) (fun _ e => e) (fun _ _ e => e)
  have HGo := Lib.hid hgW
  have HSz := Lib.hid hlt7
  clear hch hg17 hz7 hg1 hg2 hg3 hg4 hg5 hg6 hg7 hR7 hgW HB HGW ho1
  have hE := HE.out w1.heap.size W.drew (by obtain ⟨A', c', a1, a2, a3⟩ := hRW; exact ⟨A', c', a1, a2, a3⟩)
  have hne : w7.heap.size ≠ w.heap.size := by omega
  have HE := Lib.hid hE
  have HBd := Lib.hid (show Both w7.heap.size w.heap.size X W.drew from hbth)
  clear hE hbth hRW H1 H2 H3 H4 H5 HX5 HO HN hb2
  obtain ⟨b, hb⟩ : ∃ b, w7.heap.size = b := ⟨_, rfl⟩
  rw [hb] at HBd hne ⊢
  clear hb
  by_cases he0 : er0 = 0
  case neg =>
    have hd : (er0 == 0) = false := by simpa using he0
    have HZ := Lib.hid he0
    clear he0
    go_wp2_with fail
    refine wp_region_held_drew (S := Both b w.heap.size X) (by kernel_rfl) HBd.out (fun hHeld => ?_)
    refine h_load 0 (some 27) 34 (.tmp 7) b 0 X _ rfl (by kernel_rfl) (by kernel_rfl) (by kernel_rfl) (by kernel_rfl) (by kernel_rfl) (fun _ _ _ h => h) (by kernel_rfl) (by kernel_rfl) (fun w h => h.range) Tryz.underlying34 rfl (by rw [HXS.out]; exact info_rec) HBd.out ?_
    simp only [Act.put, List.setIfInBounds_toArray, List.set_cons_zero, List.set_cons_succ]
    refine h_pure 1 (some 28) (.int .i64 er0) rfl (by kernel_rfl) (by kernel_rfl) (by kernel_rfl) (by kernel_rfl) (fun _ _ _ h => h) (by kernel_rfl) (fun w _ => by go_simp) HBd.out ?_
    simp only [Act.put, List.setIfInBounds_toArray, List.set_cons_zero, List.set_cons_succ]
    refine h_pure 2 (some 29) (.bool false) rfl (by kernel_rfl) (by kernel_rfl) (by kernel_rfl) (by kernel_rfl) (fun _ _ _ h => h) (by kernel_rfl) (fun w _ => by go_simp) HBd.out ?_
    simp only [Act.put, List.setIfInBounds_toArray, List.set_cons_zero, List.set_cons_succ]
    refine h_pure 3 (some 30) (.bool false) rfl (by kernel_rfl) (by kernel_rfl) (by kernel_rfl) (by kernel_rfl) (fun _ _ _ h => h) (by kernel_rfl) (fun w _ => by go_simp) HBd.out ?_
    simp only [Act.put, List.setIfInBounds_toArray, List.set_cons_zero, List.set_cons_succ]
    refine h_skip 4 (some 31) rfl (by kernel_rfl) (by kernel_rfl) (by kernel_rfl) (by kernel_rfl) (fun _ _ _ h => h) (by kernel_rfl) HBd.out ?_
    simp only [Act.put, List.setIfInBounds_toArray, List.set_cons_zero, List.set_cons_succ]
    refine h_skip 5 (some 32) rfl (by kernel_rfl) (by kernel_rfl) (by kernel_rfl) (by kernel_rfl) (fun _ _ _ h => h) (by kernel_rfl) HBd.out ?_
    simp only [Act.put, List.setIfInBounds_toArray, List.set_cons_zero, List.set_cons_succ]
    refine h_skip 6 (some 33) rfl (by kernel_rfl) (by kernel_rfl) (by kernel_rfl) (by kernel_rfl) (fun _ _ _ h => h) (by kernel_rfl) HBd.out ?_
    simp only [Act.put, List.setIfInBounds_toArray, List.set_cons_zero, List.set_cons_succ]
    refine h_pure 7 (some 34) (.bool false) rfl (by kernel_rfl) (by kernel_rfl) (by kernel_rfl) (by kernel_rfl) (fun _ _ _ h => h) (by kernel_rfl) (fun w _ => by go_simp) HBd.out ?_
    simp only [Act.put, List.setIfInBounds_toArray, List.set_cons_zero, List.set_cons_succ]
    refine h_pure 8 (some 35) (.bool false) rfl (by kernel_rfl) (by kernel_rfl) (by kernel_rfl) (by kernel_rfl) (fun _ _ _ h => h) (by kernel_rfl) (fun w _ => by go_simp) HBd.out ?_
    simp only [Act.put, List.setIfInBounds_toArray, List.set_cons_zero, List.set_cons_succ]
    refine h_skip 9 (some 36) rfl (by kernel_rfl) (by kernel_rfl) (by kernel_rfl) (by kernel_rfl) (fun _ _ _ h => h) (by kernel_rfl) HBd.out ?_
    simp only [Act.put, List.setIfInBounds_toArray, List.set_cons_zero, List.set_cons_succ]
    refine h_skip 10 (some 37) rfl (by kernel_rfl) (by kernel_rfl) (by kernel_rfl) (by kernel_rfl) (fun _ _ _ h => h) (by kernel_rfl) HBd.out ?_
    simp only [Act.put, List.setIfInBounds_toArray, List.set_cons_zero, List.set_cons_succ]
    refine h_pure 11 (some 38) (.bool false) rfl (by kernel_rfl) (by kernel_rfl) (by kernel_rfl) (by kernel_rfl) (fun _ _ _ h => h) (by kernel_rfl) (fun w _ => by go_simp) HBd.out ?_
    simp only [Act.put, List.setIfInBounds_toArray, List.set_cons_zero, List.set_cons_succ]
    refine h_store 12 34 (.tmp 2) (.tmp 27) w.heap.size X (by kernel_rfl) rfl (by kernel_rfl) (by kernel_rfl) (by kernel_rfl) (by kernel_rfl) (by kernel_rfl) 34 (HBd.out.old HXS.out) (by rw [HXS.out]; exact info_rec) HX1.out ?_ ?_
    · intro W3 h1 h2
      exact HBd.out.put HXS.out hne h1 h2
    intro W3 hg3 hb3
    have HB3 := Lib.hid (HBd.out.put HXS.out hne hg3 hb3)
    refine h_pure 13 (some 3) (.bool false) rfl (by kernel_rfl) (by kernel_rfl) (by kernel_rfl) (by kernel_rfl) (fun _ _ _ h => h) (by kernel_rfl) (fun w _ => by go_simp) HB3.out ?_
    simp only [Act.put, List.setIfInBounds_toArray, List.set_cons_zero, List.set_cons_succ]
    refine wpAnyH_done (by kernel_rfl) ?_ _
    go_wp2
    exact bodyPost_ret (run_results_cell_tmp Tryz.results32 _ _ w.heap.size 34 X (0, 0) _ (.bool false) (by kernel_rfl) (by kernel_rfl) hb3 Tryz.underlying34 rfl (by rw [HXS.out]; exact info_rec)) (by kernel_rfl) ⟨by simp [HZ.out], (HGo.out.drew).then_new hg3 (fun x e => by omega)⟩
  case pos =>
    subst he0
    by_cases her : er = 0
    case' neg =>
      have hd : (er == 0) = false := by simpa using her
      have HZ := Lib.hid her
      clear her
    case' pos =>
      subst her
    rotate_left 1
    go_wp2_with fail
    refine wp_region_held_drew (S := Both b w.heap.size X) (by kernel_rfl) HBd.out (fun hHeld => ?_)
    refine h_load 0 (some 27) 34 (.tmp 7) b 0 X _ rfl (by kernel_rfl) (by kernel_rfl) (by kernel_rfl) (by kernel_rfl) (by kernel_rfl) (fun _ _ _ h => h) (by kernel_rfl) (by kernel_rfl) (fun w h => h.range) Tryz.underlying34 rfl (by rw [HXS.out]; exact info_rec) HBd.out ?_
    simp only [Act.put, List.setIfInBounds_toArray, List.set_cons_zero, List.set_cons_succ]
    refine h_pure 1 (some 28) (.int .i64 0) rfl (by kernel_rfl) (by kernel_rfl) (by kernel_rfl) (by kernel_rfl) (fun _ _ _ h => h) (by kernel_rfl) (fun w _ => by go_simp) HBd.out ?_
    simp only [Act.put, List.setIfInBounds_toArray, List.set_cons_zero, List.set_cons_succ]
    refine h_pure 2 (some 29) (.bool true) rfl (by kernel_rfl) (by kernel_rfl) (by kernel_rfl) (by kernel_rfl) (fun _ _ _ h => h) (by kernel_rfl) (fun w _ => by go_simp) HBd.out ?_
    simp only [Act.put, List.setIfInBounds_toArray, List.set_cons_zero, List.set_cons_succ]
    refine h_pure 3 (some 30) (.bool true) rfl (by kernel_rfl) (by kernel_rfl) (by kernel_rfl) (by kernel_rfl) (fun _ _ _ h => h) (by kernel_rfl) (fun w _ => by go_simp) HBd.out ?_
    simp only [Act.put, List.setIfInBounds_toArray, List.set_cons_zero, List.set_cons_succ]
    refine h_pure 4 (some 31) (.pointer (some ⟨w1.heap.size, 0, none⟩)) rfl (by kernel_rfl) (by kernel_rfl) (by kernel_rfl) (by kernel_rfl) (fun _ _ _ h => h) (by kernel_rfl) (fun w _ => by go_simp) HBd.out ?_
    simp only [Act.put, List.setIfInBounds_toArray, List.set_cons_zero, List.set_cons_succ]
    refine h_one 5 (by kernel_rfl) rfl (by kernel_rfl) ?_
    intro K hK
    go_simp
    go_at_call 58
    refine HE.out.mono ?_
    rintro e w8 ⟨rfl, rfl⟩
    refine hK.out _ _ HBd.out (fun _ => ?_)
    clear hK K
    refine h_pure 6 (some 33) (.bool false) rfl (by kernel_rfl) (by kernel_rfl) (by kernel_rfl) (by kernel_rfl) (fun _ _ _ h => h) (by kernel_rfl) (fun w _ => by go_simp) HBd.out ?_
    simp only [Act.put, List.setIfInBounds_toArray, List.set_cons_zero, List.set_cons_succ]
    refine h_pure 7 (some 34) (.bool false) rfl (by kernel_rfl) (by kernel_rfl) (by kernel_rfl) (by kernel_rfl) (fun _ _ _ h => h) (by kernel_rfl) (fun w _ => by go_simp) HBd.out ?_
    simp only [Act.put, List.setIfInBounds_toArray, List.set_cons_zero, List.set_cons_succ]
    refine h_pure 8 (some 35) (.bool false) rfl (by kernel_rfl) (by kernel_rfl) (by kernel_rfl) (by kernel_rfl) (fun _ _ _ h => h) (by kernel_rfl) (fun w _ => by go_simp) HBd.out ?_
    simp only [Act.put, List.setIfInBounds_toArray, List.set_cons_zero, List.set_cons_succ]
    refine h_skip 9 (some 36) rfl (by kernel_rfl) (by kernel_rfl) (by kernel_rfl) (by kernel_rfl) (fun _ _ _ h => h) (by kernel_rfl) HBd.out ?_
    simp only [Act.put, List.setIfInBounds_toArray, List.set_cons_zero, List.set_cons_succ]
    refine h_skip 10 (some 37) rfl (by kernel_rfl) (by kernel_rfl) (by kernel_rfl) (by kernel_rfl) (fun _ _ _ h => h) (by kernel_rfl) HBd.out ?_
    simp only [Act.put, List.setIfInBounds_toArray, List.set_cons_zero, List.set_cons_succ]
    refine h_pure 11 (some 38) (.bool false) rfl (by kernel_rfl) (by kernel_rfl) (by kernel_rfl) (by kernel_rfl) (fun _ _ _ h => h) (by kernel_rfl) (fun w _ => by go_simp) HBd.out ?_
    simp only [Act.put, List.setIfInBounds_toArray, List.set_cons_zero, List.set_cons_succ]
    refine h_store 12 34 (.tmp 2) (.tmp 27) w.heap.size X (by kernel_rfl) rfl (by kernel_rfl) (by kernel_rfl) (by kernel_rfl) (by kernel_rfl) (by kernel_rfl) 34 (HBd.out.old HXS.out) (by rw [HXS.out]; exact info_rec) HX1.out ?_ ?_
    · intro W3 h1 h2
      exact HBd.out.put HXS.out hne h1 h2
    intro W3 hg3 hb3
    have HB3 := Lib.hid (HBd.out.put HXS.out hne hg3 hb3)
    refine h_pure 13 (some 3) (.bool false) rfl (by kernel_rfl) (by kernel_rfl) (by kernel_rfl) (by kernel_rfl) (fun _ _ _ h => h) (by kernel_rfl) (fun w _ => by go_simp) HB3.out ?_
    simp only [Act.put, List.setIfInBounds_toArray, List.set_cons_zero, List.set_cons_succ]
    refine wpAnyH_done (by kernel_rfl) ?_ _
    go_wp2
    exact bodyPost_ret (run_results_cell_tmp Tryz.results32 _ _ w.heap.size 34 X (0, 0) _ (.bool false) (by kernel_rfl) (by kernel_rfl) hb3 Tryz.underlying34 rfl (by rw [HXS.out]; exact info_rec)) (by kernel_rfl) ⟨by simp [HZ.out], (HGo.out.drew).then_new hg3 (fun x e => by omega)⟩
    go_wp2_with fail
    refine wp_region_held_drew (S := Both b w.heap.size X) (by kernel_rfl) HBd.out (fun hHeld => ?_)
    refine h_load 0 (some 27) 34 (.tmp 7) b 0 X _ rfl (by kernel_rfl) (by kernel_rfl) (by kernel_rfl) (by kernel_rfl) (by kernel_rfl) (fun _ _ _ h => h) (by kernel_rfl) (by kernel_rfl) (fun w h => h.range) Tryz.underlying34 rfl (by rw [HXS.out]; exact info_rec) HBd.out ?_
    simp only [Act.put, List.setIfInBounds_toArray, List.set_cons_zero, List.set_cons_succ]
    refine h_pure 1 (some 28) (.int .i64 0) rfl (by kernel_rfl) (by kernel_rfl) (by kernel_rfl) (by kernel_rfl) (fun _ _ _ h => h) (by kernel_rfl) (fun w _ => by go_simp) HBd.out ?_
    simp only [Act.put, List.setIfInBounds_toArray, List.set_cons_zero, List.set_cons_succ]
    refine h_pure 2 (some 29) (.bool true) rfl (by kernel_rfl) (by kernel_rfl) (by kernel_rfl) (by kernel_rfl) (fun _ _ _ h => h) (by kernel_rfl) (fun w _ => by go_simp) HBd.out ?_
    simp only [Act.put, List.setIfInBounds_toArray, List.set_cons_zero, List.set_cons_succ]
    refine h_pure 3 (some 30) (.bool true) rfl (by kernel_rfl) (by kernel_rfl) (by kernel_rfl) (by kernel_rfl) (fun _ _ _ h => h) (by kernel_rfl) (fun w _ => by go_simp) HBd.out ?_
    simp only [Act.put, List.setIfInBounds_toArray, List.set_cons_zero, List.set_cons_succ]
    refine h_pure 4 (some 31) (.pointer (some ⟨w1.heap.size, 0, none⟩)) rfl (by kernel_rfl) (by kernel_rfl) (by kernel_rfl) (by kernel_rfl) (fun _ _ _ h => h) (by kernel_rfl) (fun w _ => by go_simp) HBd.out ?_
    simp only [Act.put, List.setIfInBounds_toArray, List.set_cons_zero, List.set_cons_succ]
    refine h_one 5 (by kernel_rfl) rfl (by kernel_rfl) ?_
    intro K hK
    go_simp
    go_at_call 58
    refine HE.out.mono ?_
    rintro e w8 ⟨rfl, rfl⟩
    refine hK.out _ _ HBd.out (fun _ => ?_)
    clear hK K
    refine h_pure 6 (some 33) (.bool true) rfl (by kernel_rfl) (by kernel_rfl) (by kernel_rfl) (by kernel_rfl) (fun _ _ _ h => h) (by kernel_rfl) (fun w _ => by go_simp) HBd.out ?_
    simp only [Act.put, List.setIfInBounds_toArray, List.set_cons_zero, List.set_cons_succ]
    refine h_pure 7 (some 34) (.bool true) rfl (by kernel_rfl) (by kernel_rfl) (by kernel_rfl) (by kernel_rfl) (fun _ _ _ h => h) (by kernel_rfl) (fun w _ => by go_simp) HBd.out ?_
    simp only [Act.put, List.setIfInBounds_toArray, List.set_cons_zero, List.set_cons_succ]
    refine h_pure 8 (some 35) (.bool true) rfl (by kernel_rfl) (by kernel_rfl) (by kernel_rfl) (by kernel_rfl) (fun _ _ _ h => h) (by kernel_rfl) (fun w _ => by go_simp) HBd.out ?_
    simp only [Act.put, List.setIfInBounds_toArray, List.set_cons_zero, List.set_cons_succ]
    refine h_load 9 (some 36) 34 (.tmp 7) b 0 X _ rfl (by kernel_rfl) (by kernel_rfl) (by kernel_rfl) (by kernel_rfl) (by kernel_rfl) (fun _ _ _ h => h) (by kernel_rfl) (by kernel_rfl) (fun w h => h.range) Tryz.underlying34 rfl (by rw [HXS.out]; exact info_rec) HBd.out ?_
    simp only [Act.put, List.setIfInBounds_toArray, List.set_cons_zero, List.set_cons_succ]
    refine h_one 10 (by kernel_rfl) rfl (by kernel_rfl) ?_
    intro K hK
    go_simp
    go_at_call 7
    refine (HM.out _).mono ?_
    rintro e w9 ⟨rfl, hg9⟩
    have HBm := Lib.hid (HBd.out.non hg9)
    have HG9 := Lib.hid hg9
    refine hK.out _ _ HBm.out (fun _ => ?_)
    clear hK K hg9
    refine h_pure 11 (some 38) (.bool y) rfl (by kernel_rfl) (by kernel_rfl) (by kernel_rfl) (by kernel_rfl) (fun _ _ _ h => h) (by kernel_rfl) (fun w _ => by go_simp) HBm.out ?_
    simp only [Act.put, List.setIfInBounds_toArray, List.set_cons_zero, List.set_cons_succ]
    refine h_store 12 34 (.tmp 2) (.tmp 27) w.heap.size X (by kernel_rfl) rfl (by kernel_rfl) (by kernel_rfl) (by kernel_rfl) (by kernel_rfl) (by kernel_rfl) 34 (HBm.out.old HXS.out) (by rw [HXS.out]; exact info_rec) HX1.out ?_ ?_
    · intro W3 h1 h2
      exact HBm.out.put HXS.out hne h1 h2
    intro W3 hg3 hb3
    have HB3 := Lib.hid (HBm.out.put HXS.out hne hg3 hb3)
    refine h_pure 13 (some 3) (.bool y) rfl (by kernel_rfl) (by kernel_rfl) (by kernel_rfl) (by kernel_rfl) (fun _ _ _ h => h) (by kernel_rfl) (fun w _ => by go_simp) HB3.out ?_
    simp only [Act.put, List.setIfInBounds_toArray, List.set_cons_zero, List.set_cons_succ]
    refine wpAnyH_done (by kernel_rfl) ?_ _
    go_wp2
    exact bodyPost_ret (run_results_cell_tmp Tryz.results32 _ _ w.heap.size 34 X (0, 0) _ (.bool y) (by kernel_rfl) (by kernel_rfl) hb3 Tryz.underlying34 rfl (by rw [HXS.out]; exact info_rec)) (by kernel_rfl) ⟨by simp, ((HGo.out.drew).then_non HG9.out).then_new hg3 (fun x e => by omega)⟩

end Go.Proofs.YtgmpacndjmmgjaaGreat
end
section
namespace Go.Proofs.YtgmpacndjmmgjaaGreat
open Go.RowKit
set_option linter.unusedVariables false

theorem wpList_load_rec {w : World} {ops : Array Oper} {rest : List Oper} {op : Oper} {a : Act} {Q : Exit → Act → World → Prop} (hgd : op.guard = none) (x : Operand) (ho : op.op = .load 34 x)
    (b o : Nat) (hx : a.eval x = .pointer (some ⟨b, o, none⟩)) (X : Array Value) (hc : w.rangeAt b o X.toList) (hl : X.size = 36)
    (h : wpList Tryz.prog ops Q rest (a.put op.dst (.agg X)) w) : wpList Tryz.prog ops Q (op :: rest) a w :=
  wpList_load_mid hgd 34 x ho b o hx X.toList _ hc Tryz.underlying34 rfl (by rw [Array.length_toList, hl]; exact info_rec) h

theorem recRead_any (A : Option Addr) (l : List UInt8) (cap : Nat) (w : World) (hr : Rd w A l) (h64 : 64 ≤ l.length) (hl : l.length ≤ 64) (hcap : l.length ≤ cap) (hm : cap ≤ maxLen) :
    Calls Tryz.prog 32 #[.slice A l.length cap] w fun e w' => e = .returned (.tuple #[.agg (recA (recRd l).1), .bool (recRd l).2]) ∧ Chg Non w w' := by
  cases ho : openL 1 l with
  | none =>
    have := recRead_core A [] 0 (by simp) 70 A l cap w (fun W hg => (Open_none 1 A l cap W (hr.non hg) h64 hl hcap hm ho).mono (by
      rintro e w' ⟨rfl, hg'⟩
      exact ⟨none, 0, rfl, Rd.nil _ _, hg'⟩))
    unfold recRd
    rw [ho]
    exact this
  | some m =>
    have hml : m.length ≤ 65536 := by
      unfold openL at ho
      split at ho
      · injection ho with ho
        rw [← ho, List.length_take, List.length_drop]; omega
      · cases ho
    have := recRead_core A m 0 hml 0 A l cap w (fun W hg => (Open_some 1 A l m cap W (hr.non hg) h64 hl hcap hm ho).mono (by
      rintro e w' ⟨A1, c1, rfl, _, _, ho1, hg'⟩
      exact ⟨A1, c1, rfl, ho1.rd, hg'⟩))
    unfold recRd
    rw [ho]
    exact this

/-- Put: what it makes of a disk that was made -/
def cPut (D : Dk) (r : Rec) : Dk × Int :=
  if r.may = false then (D, 2)
  else
    let x := D.write (r.seqn % 2) (sealL 1 (recForm r))
    if x.2 ≠ 0 then x else x.1.flush

theorem cwrite_sz {D : Dk} (h : D.Sz) (i : Int) (b : List UInt8) : (D.write i b).1.Sz := by
  unfold Dk.write Dk.operate Dk.fall Dk.spill
  repeat' split
  all_goals first
    | exact h
    | exact ⟨h.stay, by have := h.left; show max (D.left - 1) 0 ≤ _; omega⟩
    | exact ⟨by simp, by simp⟩

theorem may_true {r : Rec} (h : r.may = true) : 1 ≤ r.seqn ∧ (r.slot = 0 ∨ r.slot = 1) ∧ 1 ≤ r.len ∧ r.len ≤ 4096 := by
  unfold Rec.may at h
  simp only [Bool.and_eq_true, Bool.or_eq_true, decide_eq_true_eq] at h
  exact ⟨h.1.1.1, h.1.1.2, h.1.2, h.2⟩

set_option maxRecDepth 100000 in
set_option maxHeartbeats 4000000 in
theorem cPut_any (pd ps pm : Nat) (D : Dk) (r : Rec) (w : World) (hh : r.hash.length = 32) (hs2 : r.seqn ≤ 9223372036854775807) (h : IsD w pd ps pm D) (hsz : D.Sz) (hlen : 0 < D.sec.length) :
    Calls Tryz.prog 17 #[.pointer (some ⟨pd, 0, none⟩), .agg (recA r)] w fun e w' => e = .returned (.int .i64 (cPut D r).2) ∧ IsD w' pd ps pm (cPut D r).1 ∧ Chg (DS pd ps pm) w w' := by
  have HL := Lib.hid (fun W hg => Len_ok pd ps pm D W (h.non hg))
  have hlt := h.lt
  have hlz : ((D.sec.length : Int) == 0) = false := beq_eq_false_iff_ne.2 (by omega)
  have HD := Lib.hid h
  have HXS := Lib.hid (recA_size r hh)
  have HX0 := Lib.hid (recA_0 r)
  have hM := May_any r
  have hSe := fun W (hs : r.slot = 0 ∨ r.slot = 1) => sector_any r W hs hh
  have hf2 := recForm_len r hh
  have hW := fun B c W h hr hB => Write_any pd ps pm D (r.seqn % 2) B (sealL 1 (recForm r)) c W h hsz hr hB
  have hsz2 := cwrite_sz hsz (r.seqn % 2) (sealL 1 (recForm r))
  have hFl := fun W h => Flush_any pd ps pm (D.write (r.seqn % 2) (sealL 1 (recForm r))).1 W h hsz2
  obtain ⟨X, hX⟩ : ∃ X, recA r = X := ⟨_, rfl⟩
  rw [hX] at HXS HX0 hM hSe ⊢
  unfold cPut
  cases hm : r.may with
  | false =>
    rw [hm] at hM
    have HM := Lib.hid hM
    simp only [if_true]
    clear hX hM hSe hW hFl hsz2 hm h hsz
    go_enter Tryz.func17, Tryz.ntmps17
    go_wp2_with fail
    refine (HL.out _ ((Chg.refl Non w).alloc _)).mono ?_
    rintro e w' ⟨rfl, rfl⟩
    go_wp2_with (first
      | (refine sel (some 11) (.load 34 (.tmp 3)) ?_; refine wpList_load_rec rfl (.tmp 3) rfl w.heap.size 0 rfl X (range_block (heap_alloc_new _ _)) HXS.out ?_)
      | (go_at_call 7
         refine (HM.out _).mono ?_
         rintro e w0 ⟨rfl, hg0⟩
         have HG0 := Lib.hid (((Chg.refl Non w).alloc _).then_non hg0)
         have HB0 := Lib.hid ((hg0.block w.heap.size (by simp) (fun e => e)).trans (heap_alloc_new _ _))
         clear hg0))
    go_wp2
    go_ret
    exact ⟨rfl, HD.out.non HG0.out, HG0.out.of_non⟩
  | true =>
    obtain ⟨b1, b2, _, _⟩ := may_true hm
    rw [hm] at hM
    simp only [Bool.true_eq_false, if_false]
    obtain ⟨sl, hsl⟩ : ∃ sl, sealL 1 (recForm r) = sl := ⟨_, rfl⟩
    rw [hsl] at hSe hW hFl ⊢
    obtain ⟨sq, hsq⟩ : ∃ sq, r.seqn = sq := ⟨_, rfl⟩
    rw [hsq] at HX0 hW hFl b1 hs2 ⊢
    have HM := Lib.hid hM
    have HSe := Lib.hid (fun W => hSe W b2)
    obtain ⟨⟨D2, er⟩, hq⟩ : ∃ q, D.write (sq % 2) sl = q := ⟨_, rfl⟩
    rw [hq] at hW hFl ⊢
    simp only at hW hFl ⊢
    have HW := Lib.hid hW
    have HFl := Lib.hid hFl
    have h0 : 0 ≤ sq := by omega
    have htm : sq.tmod 2 = sq % 2 := Int.tmod_eq_emod_of_nonneg h0
    have hr0 : 0 ≤ sq % 2 := by omega
    have hr1 : sq % 2 < 2 := by omega
    have hwr : IntKind.i64.wrap (sq % 2) = sq % 2 := Go.IntWalk.i64_in _ (by omega)
    clear hX hM hSe hW hFl hsz2 hm h hsz hsl hsq hq hf2 b2 hh
    by_cases her : er = 0
    · subst her
      simp only [ne_eq, not_true_eq_false, if_false]
      go_enter Tryz.func17, Tryz.ntmps17
      go_wp2_with fail
      refine (HL.out _ ((Chg.refl Non w).alloc _)).mono ?_
      rintro e w' ⟨rfl, rfl⟩
      go_wp2_with (first
        | (refine sel (some 11) (.load 34 (.tmp 3)) ?_; refine wpList_load_rec rfl (.tmp 3) rfl w.heap.size 0 rfl X (range_block (heap_alloc_new _ _)) HXS.out ?_)
        | (go_at_call 7
           refine (HM.out _).mono ?_
           rintro e w0 ⟨rfl, hg0⟩
           have HG0 := Lib.hid (((Chg.refl Non w).alloc _).then_non hg0)
           have HB0 := Lib.hid ((hg0.block w.heap.size (by simp) (fun e => e)).trans (heap_alloc_new _ _))
           clear hg0))
      go_wp2_with fail
      have hgl : w.heap.size < w0.drew.heap.size := (Array.getElem?_eq_some_iff.1 HB0.out).1
      have hgD : ¬ DS pd ps pm w.heap.size := by unfold DS; omega
      have HB := Lib.hid (show w0.drew.heap[w.heap.size]? = some (.cells X 34 (0, 0)) from HB0.out)
      have HG0 := Lib.hid HG0.out.drew
      refine wp_region_held_drew (S := fun w' => w'.heap[w.heap.size]? = some (.cells X 34 (0, 0))) (by kernel_rfl) HB.out (fun _ => ?_)
      refine h_pure 0 (some 14) (.pointer (some ⟨pd, 0, none⟩)) rfl (by kernel_rfl) (by kernel_rfl) (by kernel_rfl) (by kernel_rfl) (fun _ _ _ h => h) (by kernel_rfl) (fun w e => by go_simp) HB.out ?_
      simp only [Act.put, List.setIfInBounds_toArray, List.set_cons_zero, List.set_cons_succ]
      refine h_pure 1 (some 15) (.pointer (some ⟨w.heap.size, 0, none⟩)) rfl (by kernel_rfl) (by kernel_rfl) (by kernel_rfl) (by kernel_rfl) (fun _ _ _ h => h) (by kernel_rfl) (fun w e => by go_simp) HB.out ?_
      simp only [Act.put, List.setIfInBounds_toArray, List.set_cons_zero, List.set_cons_succ]
      refine h_pure 2 (some 16) (.int .i64 sq) rfl (by kernel_rfl) (by kernel_rfl) (by kernel_rfl) (by kernel_rfl) (fun _ _ _ h => h) (by kernel_rfl) (fun v e => by (have k : v.cell? ⟨w.heap.size, 0, none⟩ = some (.int .i64 sq) := (by rw [cell_of_row _ _ _ _ _ _ e]; exact HX0.out)); go_simp) HB.out ?_
      simp only [Act.put, List.setIfInBounds_toArray, List.set_cons_zero, List.set_cons_succ]
      refine h_pure 3 (some 17) (.int .i64 (sq % 2)) rfl (by kernel_rfl) (by kernel_rfl) (by kernel_rfl) (by kernel_rfl) (fun _ _ _ h => h) (by kernel_rfl) (fun w e => by go_simp) HB.out ?_
      simp only [Act.put, List.setIfInBounds_toArray, List.set_cons_zero, List.set_cons_succ]
      refine h_pure 4 (some 18) (.int .i64 (sq % 2)) rfl (by kernel_rfl) (by kernel_rfl) (by kernel_rfl) (by kernel_rfl) (fun _ _ _ h => h) (by kernel_rfl) (fun w e => by go_simp) HB.out ?_
      simp only [Act.put, List.setIfInBounds_toArray, List.set_cons_zero, List.set_cons_succ]
      refine h_load 5 (some 19) 34 (.tmp 3) w.heap.size 0 X _ rfl (by kernel_rfl) (by kernel_rfl) (by kernel_rfl) (by kernel_rfl) (by kernel_rfl) (fun _ _ _ h => h) (by kernel_rfl) (by kernel_rfl) (fun w h => range_block h) Tryz.underlying34 rfl (by rw [HXS.out]; exact info_rec) HB.out ?_
      simp only [Act.put, List.setIfInBounds_toArray, List.set_cons_zero, List.set_cons_succ]
      refine h_one 6 (by kernel_rfl) rfl (by kernel_rfl) ?_
      intro K hK
      go_simp
      go_at_call 39
      refine (HSe.out _).mono ?_
      rintro e w1 ⟨A1, c1, rfl, hc1, hm1, ho1, hg1⟩
      refine hK.out _ _ ((hg1.block _ hgl (fun e => e)).trans HB.out) (fun _ => ?_)
      clear hK K
      have hgw : Chg Non w w1 := HG0.out.then_non hg1
      refine h_one 7 (by kernel_rfl) rfl (by kernel_rfl) ?_
      intro K hK
      go_simp
      go_at_call 19
      refine (HW.out _ _ _ (HD.out.non hgw) ho1.rd (fun b o e hne => by subst e; have := ho1.ge hne; have := HG0.out.size; omega)).mono ?_
      rintro e w3 ⟨rfl, h3, hg3⟩
      refine hK.out _ _ ((hg3.block _ (Nat.lt_of_lt_of_le hgl hg1.size) hgD).trans ((hg1.block _ hgl (fun e => e)).trans HB.out)) (fun hS3 => ?_)
      clear hK K
      have H3 := Lib.hid h3
      clear h3
      refine h_pure 8 (some 5) (.int .i64 0) rfl (by kernel_rfl) (by kernel_rfl) (by kernel_rfl) (by kernel_rfl) (fun _ _ _ h => h) (by kernel_rfl) (fun w e => by go_simp) hS3 ?_
      simp only [Act.put, List.setIfInBounds_toArray, List.set_cons_zero, List.set_cons_succ]
      refine wpAnyH_done (by kernel_rfl) ?_ _
      go_wp2_with fail
      refine (HFl.out _ H3.out).mono ?_
      rintro e w4 ⟨rfl, h4, hg4⟩
      go_wp2
      go_ret
      exact ⟨rfl, h4, (hgw.non_then hg3).trans_same hg4⟩
    · have hne : (er != 0) = true := by simpa using her
      simp only [her, ne_eq, not_false_eq_true, if_true]
      clear her
      go_enter Tryz.func17, Tryz.ntmps17
      go_wp2_with fail
      refine (HL.out _ ((Chg.refl Non w).alloc _)).mono ?_
      rintro e w' ⟨rfl, rfl⟩
      go_wp2_with (first
        | (refine sel (some 11) (.load 34 (.tmp 3)) ?_; refine wpList_load_rec rfl (.tmp 3) rfl w.heap.size 0 rfl X (range_block (heap_alloc_new _ _)) HXS.out ?_)
        | (go_at_call 7
           refine (HM.out _).mono ?_
           rintro e w0 ⟨rfl, hg0⟩
           have HG0 := Lib.hid (((Chg.refl Non w).alloc _).then_non hg0)
           have HB0 := Lib.hid ((hg0.block w.heap.size (by simp) (fun e => e)).trans (heap_alloc_new _ _))
           clear hg0))
      go_wp2_with fail
      have hgl : w.heap.size < w0.drew.heap.size := (Array.getElem?_eq_some_iff.1 HB0.out).1
      have hgD : ¬ DS pd ps pm w.heap.size := by unfold DS; omega
      have HB := Lib.hid (show w0.drew.heap[w.heap.size]? = some (.cells X 34 (0, 0)) from HB0.out)
      have HG0 := Lib.hid HG0.out.drew
      refine wp_region_held_drew (S := fun w' => w'.heap[w.heap.size]? = some (.cells X 34 (0, 0))) (by kernel_rfl) HB.out (fun _ => ?_)
      refine h_pure 0 (some 14) (.pointer (some ⟨pd, 0, none⟩)) rfl (by kernel_rfl) (by kernel_rfl) (by kernel_rfl) (by kernel_rfl) (fun _ _ _ h => h) (by kernel_rfl) (fun w e => by go_simp) HB.out ?_
      simp only [Act.put, List.setIfInBounds_toArray, List.set_cons_zero, List.set_cons_succ]
      refine h_pure 1 (some 15) (.pointer (some ⟨w.heap.size, 0, none⟩)) rfl (by kernel_rfl) (by kernel_rfl) (by kernel_rfl) (by kernel_rfl) (fun _ _ _ h => h) (by kernel_rfl) (fun w e => by go_simp) HB.out ?_
      simp only [Act.put, List.setIfInBounds_toArray, List.set_cons_zero, List.set_cons_succ]
      refine h_pure 2 (some 16) (.int .i64 sq) rfl (by kernel_rfl) (by kernel_rfl) (by kernel_rfl) (by kernel_rfl) (fun _ _ _ h => h) (by kernel_rfl) (fun v e => by (have k : v.cell? ⟨w.heap.size, 0, none⟩ = some (.int .i64 sq) := (by rw [cell_of_row _ _ _ _ _ _ e]; exact HX0.out)); go_simp) HB.out ?_
      simp only [Act.put, List.setIfInBounds_toArray, List.set_cons_zero, List.set_cons_succ]
      refine h_pure 3 (some 17) (.int .i64 (sq % 2)) rfl (by kernel_rfl) (by kernel_rfl) (by kernel_rfl) (by kernel_rfl) (fun _ _ _ h => h) (by kernel_rfl) (fun w e => by go_simp) HB.out ?_
      simp only [Act.put, List.setIfInBounds_toArray, List.set_cons_zero, List.set_cons_succ]
      refine h_pure 4 (some 18) (.int .i64 (sq % 2)) rfl (by kernel_rfl) (by kernel_rfl) (by kernel_rfl) (by kernel_rfl) (fun _ _ _ h => h) (by kernel_rfl) (fun w e => by go_simp) HB.out ?_
      simp only [Act.put, List.setIfInBounds_toArray, List.set_cons_zero, List.set_cons_succ]
      refine h_load 5 (some 19) 34 (.tmp 3) w.heap.size 0 X _ rfl (by kernel_rfl) (by kernel_rfl) (by kernel_rfl) (by kernel_rfl) (by kernel_rfl) (fun _ _ _ h => h) (by kernel_rfl) (by kernel_rfl) (fun w h => range_block h) Tryz.underlying34 rfl (by rw [HXS.out]; exact info_rec) HB.out ?_
      simp only [Act.put, List.setIfInBounds_toArray, List.set_cons_zero, List.set_cons_succ]
      refine h_one 6 (by kernel_rfl) rfl (by kernel_rfl) ?_
      intro K hK
      go_simp
      go_at_call 39
      refine (HSe.out _).mono ?_
      rintro e w1 ⟨A1, c1, rfl, hc1, hm1, ho1, hg1⟩
      refine hK.out _ _ ((hg1.block _ hgl (fun e => e)).trans HB.out) (fun _ => ?_)
      clear hK K
      have hgw : Chg Non w w1 := HG0.out.then_non hg1
      refine h_one 7 (by kernel_rfl) rfl (by kernel_rfl) ?_
      intro K hK
      go_simp
      go_at_call 19
      refine (HW.out _ _ _ (HD.out.non hgw) ho1.rd (fun b o e hne => by subst e; have := ho1.ge hne; have := HG0.out.size; omega)).mono ?_
      rintro e w3 ⟨rfl, h3, hg3⟩
      refine hK.out _ _ ((hg3.block _ (Nat.lt_of_lt_of_le hgl hg1.size) hgD).trans ((hg1.block _ hgl (fun e => e)).trans HB.out)) (fun hS3 => ?_)
      clear hK K
      have H3 := Lib.hid h3
      clear h3
      refine h_pure 8 (some 5) (.int .i64 er) rfl (by kernel_rfl) (by kernel_rfl) (by kernel_rfl) (by kernel_rfl) (fun _ _ _ h => h) (by kernel_rfl) (fun w e => by go_simp) hS3 ?_
      simp only [Act.put, List.setIfInBounds_toArray, List.set_cons_zero, List.set_cons_succ]
      refine wpAnyH_done (by kernel_rfl) ?_ _
      go_wp2
      go_ret
      exact ⟨rfl, H3.out, hgw.non_then hg3⟩
end Go.Proofs.YtgmpacndjmmgjaaGreat
end
section
namespace Go.Proofs.YtgmpacndjmmgjaaGreat
open Go.RowKit
set_option linter.unusedVariables false

theorem keyLits_u8 {P : Program} {e : TypeId} {D : Nat} (he : P.underlying e = some (.int .u8)) (b : UInt8) : P.keyLits (D + 1) e [bv b] = some [.int .u8 (b.toNat : Int)] := by
  unfold Program.keyLits bv
  rw [he]
  have hw : (Lit.int .u8 (b.toNat : Int)).wf = true := WalkArith.wf_u8 (by have := b.toNat_lt; omega)
  simp only [true_and, hw, if_true]

theorem drop_take_one {α : Type} (l : List α) (i : Nat) (h : i < l.length) : (l.drop i).take 1 = [l[i]] := by
  rw [List.drop_eq_getElem_cons h]; rfl

theorem keyLits_u8s {P : Program} {t e : TypeId} {n D : Nat} (ht : P.underlying t = some (.array n e)) (he : P.underlying e = some (.int .u8)) (hc : P.cellsOf e = 1) (hn : P.cellsOf t = n) (l : List UInt8) (hl : l.length = n) :
    P.keyLits (D + 2) t (l.map bv) = some (l.map fun b => Lit.int .u8 (b.toNat : Int)) := by
  unfold Program.keyLits
  rw [ht]
  simp only [List.length_map, hl, hn, if_true, hc, Nat.mul_one]
  have hm := Go.ChangeShapes.mapM_range_of (f := fun i => P.keyLits (D + 1) e (((l.map bv).drop i).take 1)) (g := fun i => [Lit.int .u8 ((l.getD i 0).toNat : Int)]) n (by
    intro i hi
    rw [drop_take_one _ i (by rw [List.length_map]; omega), List.getElem_map, keyLits_u8 he]
    simp [List.getD, List.getElem?_eq_getElem (show i < l.length by omega)])
  rw [hm]
  simp only [Option.map_some, Option.some.injEq]
  subst hl
  apply List.ext_getElem?
  intro i
  have hf : ((List.range l.length).map fun i => [Lit.int .u8 ((l.getD i 0).toNat : Int)]).flatten = (List.range l.length).map fun i => Lit.int .u8 ((l.getD i 0).toNat : Int) := by
    generalize List.range l.length = is
    induction is with
    | nil => rfl
    | cons j r ih => simp only [List.map_cons, List.flatten_cons, ih]; rfl
  rw [hf, List.getElem?_map, List.getElem?_map]
  by_cases hi : i < l.length
  · rw [List.getElem?_range hi, List.getElem?_eq_getElem hi]
    simp [List.getD, List.getElem?_eq_getElem hi]
  · rw [List.getElem?_eq_none (by simp; omega), List.getElem?_eq_none (by omega)]
    rfl

/-- ints that fit -/
def Rec.Bd (r : Rec) : Prop := r.hash.length = 32 ∧ (-9223372036854775808 ≤ r.seqn ∧ r.seqn ≤ 9223372036854775807) ∧ (-9223372036854775808 ≤ r.slot ∧ r.slot ≤ 9223372036854775807) ∧ (-9223372036854775808 ≤ r.len ∧ r.len ≤ 9223372036854775807)
theorem zero_bd : Rec.zero.Bd := ⟨zTag_len, by simp [Rec.zero], by simp [Rec.zero], by simp [Rec.zero]⟩

def recLits (r : Rec) : List Lit := [.int .i64 r.seqn, .int .i64 r.slot, .int .i64 r.len, .bool r.trial] ++ r.hash.map fun b => Lit.int .u8 (b.toNat : Int)

theorem recLits_inj {a b : Rec} (h : recLits a = recLits b) : a = b := by
  obtain ⟨a1, a2, a3, a4, a5⟩ := a
  obtain ⟨b1, b2, b3, b4, b5⟩ := b
  simp only [recLits, List.cons_append, List.nil_append, List.cons.injEq, Lit.int.injEq, Lit.bool.injEq, true_and] at h
  obtain ⟨rfl, rfl, rfl, rfl, h5⟩ := h
  have : a5 = b5 := by
    refine (List.map_inj_right ?_).1 h5
    intro x y e
    simp only [Lit.int.injEq, true_and] at e
    exact UInt8.toNat_inj.1 (Int.natCast_inj.1 e)
  rw [this]

theorem keyLits_i64 {P : Program} {e : TypeId} {D : Nat} (he : P.underlying e = some (.int .i64)) (n : Int) (h : -9223372036854775808 ≤ n ∧ n ≤ 9223372036854775807) : P.keyLits (D + 1) e [.int .i64 n] = some [.int .i64 n] := by
  unfold Program.keyLits
  rw [he]
  have hw : (Lit.int .i64 n).wf = true := WalkArith.wf_i64 (by omega)
  simp only [true_and, hw, if_true]
theorem keyLits_bool {P : Program} {e : TypeId} {D : Nat} (he : P.underlying e = some .bool) (b : Bool) : P.keyLits (D + 1) e [.bool b] = some [.bool b] := by
  unfold Program.keyLits
  rw [he]

set_option maxRecDepth 100000 in
theorem keyLits_rec (r : Rec) (h : r.Bd) : Tryz.prog.keyLits 3 34 (recA r).toList = some (recLits r) := by
  obtain ⟨h5, h1, h2, h3⟩ := h
  unfold Program.keyLits
  rw [Tryz.underlying34]
  have c36 : Tryz.prog.cellsOf 34 = 36 := by kernel_rfl
  have c1 : Tryz.prog.cellsOf 3 = 1 := by kernel_rfl
  have cb : Tryz.prog.cellsOf 4 = 1 := by kernel_rfl
  have ct : Tryz.prog.cellsOf 32 = 32 := by kernel_rfl
  have hl : (recA r).toList.length = 36 := by rw [Array.length_toList, recA_size r h5]
  simp only [hl, c36]
  rw [if_pos ⟨trivial, by kernel_rfl⟩]
  have k1 := keyLits_i64 (D := 1) Tryz.underlying3 r.seqn h1
  have k2 := keyLits_i64 (D := 1) Tryz.underlying3 r.slot h2
  have k3 := keyLits_i64 (D := 1) Tryz.underlying3 r.len h3
  have k4 := keyLits_bool (D := 1) Tryz.underlying4 r.trial
  have k5 := keyLits_u8s (D := 0) Tryz.underlying32 Tryz.underlying5 (by kernel_rfl) ct r.hash h5
  have t5 : ((r.hash.map bv).take 32) = r.hash.map bv := List.take_of_length_le (by simp; omega)
  rw [recA_list]
  simp [c1, cb, ct, k1, k2, k3, k4, t5, k5, recLits]

theorem rec_formed (r : Rec) (h : r.hash.length = 32) : (Value.agg (recA r)).formed Tryz.prog 34 = true := by
  have c36 : Tryz.prog.cellsOf 34 = 36 := by kernel_rfl
  unfold Value.formed
  rw [Tryz.underlying34]
  simp only [c36, recA_size r h, beq_self_eq_true]

/-- '==' and '!=' of two records -/
theorem eq_rec (a b : Rec) (ha : a.Bd) (hb : b.Bd) : ∃ q : Bool, (q = true ↔ a = b) ∧ ∀ w, (binOp .eql 34 (.agg (recA a)) (.agg (recA b))).run Tryz.prog w = .ok (.bool q) w ∧ (binOp .neq 34 (.agg (recA a)) (.agg (recA b))).run Tryz.prog w = .ok (.bool !q) w := by
  have key : ∀ w, ∃ q : Bool, (Op.equalIn 10000 34 (.agg (recA a)) (.agg (recA b))).run Tryz.prog w = .ok q w ∧ (q = true ↔ recLits a = recLits b) := fun w =>
    run_equalIn_deep 9997 3 34 (by kernel_rfl) w 3 3 _ _ _ _ (rec_formed a ha.1) (rec_formed b hb.1) (keyLits_rec a ha) (keyLits_rec b hb)
  have hiff : recLits a = recLits b ↔ a = b := ⟨recLits_inj, fun h => by rw [h]⟩
  by_cases hab : a = b
  · refine ⟨true, by simp [hab], fun w => ?_⟩
    obtain ⟨q, hq, hqi⟩ := key w
    have : q = true := hqi.2 (hiff.2 hab)
    subst this
    rw [run_eql_struct, run_neq_struct, hq]
    exact ⟨rfl, rfl⟩
  · refine ⟨false, by simp [hab], fun w => ?_⟩
    obtain ⟨q, hq, hqi⟩ := key w
    have : q = false := by
      cases q with
      | false => rfl
      | true => exact absurd (hiff.1 (hqi.1 rfl)) hab
    subst this
    rw [run_eql_struct, run_neq_struct, hq]
    exact ⟨rfl, rfl⟩
end Go.Proofs.YtgmpacndjmmgjaaGreat
end
