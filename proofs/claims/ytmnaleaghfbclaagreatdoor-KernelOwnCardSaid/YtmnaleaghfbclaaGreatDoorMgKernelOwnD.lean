/- KernelOwn, part 4 of 4: what it needs beside the merged texts of KernelTime (from my texts XCard, XIsaOpen, XKOpen, XCardS). -/
import Derived.Test.YtmnaleaghfbclaaGreatDoorMgKernelTimeA
import Derived.Test.YtmnaleaghfbclaaGreatDoorMgKernelTimeB
import Derived.Test.YtmnaleaghfbclaaGreatDoorMgKernelTimeC
import Derived.Test.YtmnaleaghfbclaaGreatDoorMgKernelTimeD
import Derived.Test.YtmnaleaghfbclaaGreatDoorMgKernelTimeE
import Derived.Test.YtmnaleaghfbclaaGreatDoorMgKernelTimeF
import Derived.Test.YtmnaleaghfbclaaGreatDoorMgKernelTimeG
import Derived.Test.YtmnaleaghfbclaaGreatDoorMgKernelTimeH
import Derived.Test.YtmnaleaghfbclaaGreatDoorMgKernelTimeI
import Derived.Test.YtmnaleaghfbclaaGreatDoorMgKernelTimeJ
import Derived.Test.YtmnaleaghfbclaaGreatDoorMgKernelTimeK
import Derived.Test.YtmnaleaghfbclaaGreatDoorMgKernelTimeL
import Derived.Test.YtmnaleaghfbclaaGreatDoorMgKernelTimeM
import Derived.Test.YtmnaleaghfbclaaGreatDoorMgKernelTimeN
import Derived.Test.YtmnaleaghfbclaaGreatDoorMgKernelTimeO
import Derived.Test.YtmnaleaghfbclaaGreatDoorMgKernelTimeP
import Derived.Test.YtmnaleaghfbclaaGreatDoorMgKernelTimeQ
import Derived.Test.YtmnaleaghfbclaaGreatDoorMgKernelTimeS
import Derived.Test.YtmnaleaghfbclaaGreatDoorMgKernelTimeShelf
import Derived.Test.YtmnaleaghfbclaaGreatDoorMgKernelTimeT
import Derived.Test.YtmnaleaghfbclaaGreatDoorMgKernelTimeU
import Derived.Test.YtmnaleaghfbclaaGreatDoorMgKernelTimeV
import Derived.Test.YtmnaleaghfbclaaGreatDoorMgKernelTimeW
import Derived.Test.YtmnaleaghfbclaaGreatDoorMgKernelTimeX
import Derived.Test.YtmnaleaghfbclaaGreatDoorMgKernelTimeY
import Derived.Test.YtmnaleaghfbclaaGreatDoorMgKernelTimeZ
import Derived.Test.YtmnaleaghfbclaaGreatDoorMgKernelOwnA
import Derived.Test.YtmnaleaghfbclaaGreatDoorMgKernelOwnB
import Derived.Test.YtmnaleaghfbclaaGreatDoorMgKernelOwnC
import Derived.HandedShaped
import Derived.Shelf.Vars
import Derived.Lib.LaidTab
import Derived.LaidMore
import Derived.Lay
import Derived.ProofKit
import Derived.OpenShut
import Derived.Stop.LaidErr
import Derived.Deep.Slices
namespace Go.Proofs.YtmnaleaghfbclaaGreatDoor
set_option linter.unusedVariables false
set_option linter.unusedSimpArgs false
set_option maxHeartbeats 8000000
section
open Go.ChangeShapes Go.WideShapes Go.ChangeAt Go.RowKit
section
variable {H : Type} {enc : TypeId × Value → H}
theorem returnsIn_card {a : Assume} {C : Checked} {os : Os} {f : FuncId} {fn : Func} {s : ChangeSpec} {conds : List PathCond} {apart fresh handsOn again : Bool} {X : World → Array Value → Prop}
  (hX : ∀ (w w' : World) (args : Array Value), w.heap = w'.heap → X w args → X w' args)
  (own : ownKnob C.prog.godebug = none) (started : os.Started) (noInit : C.prog.inits.idxOf? f = none) (hfn : C.prog.funcs[f]? = some fn)
  (witness : ∃ (w : World) (tape : Tape) (i : Input), w.os = os ∧ (w.forCall tape i).Shaped C.prog ∧ i.vars = [] ∧ Input.okWide C.prog (w.forCall tape i) .any w.heap.size f i ∧
    ((s.pre enc C.prog fn conds apart (w.forCall tape i).memory i.args ∧ X (w.forCall tape i).memory i.args) ∧ sizedMet enc C.prog fn (OpenSpec.ofChange s) apart (w.forCall tape i).memory i.args) ∧ a.holds C.prog (lone (Frame.enter C.prog f i.args .normal) [] (w.forCall tape i)))
  (contract : ∀ (W : World) (base : Nat) (args : Array Value) (ds gs : List (DataW H)) (before : List MemPlace),
    (∀ (j : Nat) t v, fn.params[j]? = some t → args[j]? = some v → Value.okWide C.prog W .any base t v) →
    DataW.Whole enc C.prog fn.params.toList s.vars apart W args.toList ds gs before → W.ShapedOpen C.prog → X W args →
    Calls C.prog f args W fun e W' => ∃ v, e = .returned v ∧ s.post enc C.prog fn apart fresh handsOn again W args v W') :
  ReturnsInHanded a C os f .any (fun w args => (s.pre enc C.prog fn conds apart w args ∧ X w args) ∧ sizedMet enc C.prog fn (OpenSpec.ofChange s) apart w args) (s.post enc C.prog fn apart fresh handsOn again) := by
 refine returnsInHanded_of_calls own started noInit witness ?_
 intro w tape i _ hsh _ hok hpre hholds
 obtain ⟨_, _, _, fn', hfn', _, _, _, _, hval⟩ := hok
 have e : fn' = fn := Option.some.inj (hfn'.symm.trans hfn)
 subst e
 obtain ⟨⟨⟨ds, gs, before, hw, _⟩, hx⟩, _⟩ := hpre
 refine (contract (w.forCall tape i) w.heap.size i.args ds gs before hval (DataW.Whole.of_heap (w' := w.forCall tape i) (by rfl) hw) hsh (hX _ _ _ (by rfl) hx)).mono fun e W' ⟨v, he, hp⟩ => ?_
 subst he
 exact ChangeSpec.post_blind hp
end
theorem star : ("*errors.errorString" : String) = "*" ++ "errors.errorString" := by decide
theorem rowErr (u : TypeId) (h : Tryz.prog.typeName? 3 u = some "*errors.errorString") : u = 276 :=
 typeName_ptr_named (nm := "errors.errorString") (by rw [← star]; kernel_rfl) (by kernel_rfl) (by decide) u (by rw [← star]; exact h)
theorem env_of {w : World} (hsh : w.ShapedOpen Tryz.prog) {d r : List (String × DataW Unit)} {a : String × DataW Unit} (hL : laidMet Tryz.prog (("internal/strconv.uint64pow10", Rows.laid_internal_strconv_uint64pow10) :: a :: ("strconv.ErrRange", Rows.laid_strconv_ErrRange) :: ("strconv.ErrSyntax", Rows.laid_strconv_ErrSyntax) :: r) w) : Env w := by
 refine ⟨?_, ?_, ?_, ?_⟩
 ·exact Lib.tabIs_of_head (g := 5) (k := .u64) (zs := Lib.pow10Tab) (by kernel_rfl) (by kernel_rfl) Tryz.underlying293 Tryz.underlying57 (by kernel_rfl) (by kernel_rfl) hL
 ·obtain ⟨a0, s0, hv0, -, -, -⟩ := laid_sentinel (g := 0) hL.tail.tail.tail (by kernel_rfl) (by kernel_rfl) Tryz.underlying201 rowErr Tryz.underlying276 Tryz.underlying278 rfl rfl Tryz.underlying9 (by kernel_rfl) (by kernel_rfl)
  exact ⟨_, by have h0 := World.var?_cell (g := 0) (by kernel_rfl) hv0 0; simpa using h0, .inr ⟨_, _, rfl⟩⟩
 ·obtain ⟨a0, s0, hv0, -, -, -⟩ := laid_sentinel (g := 1) hL.tail.tail (by kernel_rfl) (by kernel_rfl) Tryz.underlying201 rowErr Tryz.underlying276 Tryz.underlying278 rfl rfl Tryz.underlying9 (by kernel_rfl) (by kernel_rfl)
  exact ⟨_, by have h0 := World.var?_cell (g := 1) (by kernel_rfl) hv0 0; simpa using h0, .inr ⟨_, _, rfl⟩⟩
 ·exact cell_of_shapedOpen_int (zero := #[.int .i64 0]) hsh (of_decide_eq_true (by kernel_rfl)) (by kernel_rfl) (by kernel_rfl) (by kernel_rfl) (by kernel_rfl) Tryz.underlying3
end
section
open Go.ChangeShapes Go.WideShapes Go.ChangeAt Go.RowKit
theorem one_of_take {cs : List Value} {k : Nat} {v : Value} (h : (cs.drop k).take 1 = [v]) : cs[k]? = some v := by
 have h1 : ((cs.drop k).take 1)[0]? = some v := by rw [h]; rfl
 rw [List.getElem?_take_of_lt (by omega), List.getElem?_drop, Nat.add_zero] at h1
 exact h1
section
variable {H : Type} {enc : TypeId × Value → H} {W : World} {base : Nat} {sp : Nat → Bool} {hd : Bool}
theorem u8_nat {k : Int} (h : (Lit.int .u8 k).wf = true) : ∃ n : Nat, k = n ∧ n < 256 := by
 obtain ⟨h1, h2⟩ := bounds_u8 h
 exact ⟨k.toNat, by omega, by omega⟩
set_option maxRecDepth 100000 in
theorem open_u8 {r0 : Reach} {b0 : Nat} {v : Value} {d : DataW H} {ps : List MemPlace} (hval : Value.okWide Tryz.prog W r0 b0 5 v) (h : DataW.Trod enc Tryz.prog W base sp hd 5 v d ps) : ∃ n : Nat, v = .int .u8 n ∧ n < 256 := by
 obtain ⟨k, rfl, _, _, hw⟩ := open_int Tryz.underlying5 hval h
 obtain ⟨n, rfl, hn⟩ := u8_nat hw
 exact ⟨n, rfl, hn⟩
set_option maxRecDepth 100000 in
theorem open_i64 {r0 : Reach} {b0 : Nat} {v : Value} {d : DataW H} {ps : List MemPlace} (hval : Value.okWide Tryz.prog W r0 b0 3 v) (h : DataW.Trod enc Tryz.prog W base sp hd 3 v d ps) : ∃ n : Int, v = .int .i64 n ∧ -9223372036854775808 ≤ n ∧ n ≤ 9223372036854775807 := by
 obtain ⟨k, rfl, _, _, hw⟩ := open_int Tryz.underlying3 hval h
 exact ⟨k, rfl, _root_.Go.bounds_i64 hw⟩
set_option maxRecDepth 100000 in
theorem open_str {r0 : Reach} {b0 : Nat} {v : Value} {d : DataW H} {ps : List MemPlace} (hval : Value.okWide Tryz.prog W r0 b0 9 v) (h : DataW.Trod enc Tryz.prog W base sp hd 9 v d ps) : ∃ l : List UInt8, v = .string ⟨l.toArray⟩ ∧ l.length ≤ maxLen := by
 obtain ⟨s, rfl, _, _, hs⟩ := Go.ChangeMaps.open_string Tryz.underlying9 hval h
 refine ⟨s.data.toList, ?_, ?_⟩
 ·simp
 ·have e : s.size = s.data.size := rfl
  rw [Array.length_toList]; omega
set_option maxRecDepth 100000 in
theorem four_cells {fuel : Nat} {cs : List Value} {x : DataW H × List MemPlace} (h : DataW.trod enc Tryz.prog W base sp hd fuel 146 cs = some x) : ∃ p q r s : Nat, cs = [.int .u8 p, .int .u8 q, .int .u8 r, .int .u8 s] ∧ Four (p, q, r, s) := by
 obtain ⟨xs, m, _, _, hl, hxl, hx⟩ := DataW.trod_array Tryz.underlying146 h
 have c4 : Tryz.prog.cellsOf 146 = 4 := by kernel_rfl
 have c1 : Tryz.prog.cellsOf 5 = 1 := by kernel_rfl
 rw [c4] at hl
 have each : ∀ i, i < 4 → ∃ b : Nat, cs[i]? = some (.int .u8 b) ∧ b < 256 := by
  intro i hi
  have hq := hx i hi
  rw [c1, Nat.mul_one, List.getElem?_eq_getElem (by omega)] at hq
  obtain ⟨k, hk, _, hw⟩ := DataW.trod_int Tryz.underlying5 hq
  obtain ⟨n, rfl, hn⟩ := u8_nat hw
  exact ⟨n, one_of_take hk, hn⟩
 obtain ⟨p, hp, hp'⟩ := each 0 (by omega)
 obtain ⟨q, hq, hq'⟩ := each 1 (by omega)
 obtain ⟨r, hr, hr'⟩ := each 2 (by omega)
 obtain ⟨s, hs, hs'⟩ := each 3 (by omega)
 refine ⟨p, q, r, s, ?_, hp', hq', hr', hs'⟩
 match cs, hl, hp, hq, hr, hs with
 | [a, b, c, d], _, h0, h1, h2, h3 =>
  simp only [List.getElem?_cons_zero, List.getElem?_cons_succ, Option.some.injEq] at h0 h1 h2 h3
  subst h0 h1 h2 h3
  rfl
theorem okWide_array {P : Program} {n : Nat} {e t : TypeId} {r0 : Reach} {b0 : Nat} {v : Value} (ht : P.underlying t = some (.array n e)) (h : Value.okWide P W r0 b0 t v) : ∃ cs, v = .agg cs ∧ cs.size = P.cellsOf t := by
 simp only [Value.okWide, ht] at h
 obtain ⟨cs, h1, h2, _⟩ := h
 exact ⟨cs, h1, h2⟩
set_option maxRecDepth 100000 in
theorem open_four {r0 : Reach} {b0 : Nat} {v : Value} {d : DataW H} {ps : List MemPlace} (hval : Value.okWide Tryz.prog W r0 b0 146 v) (h : DataW.Trod enc Tryz.prog W base sp hd 146 v d ps) : ∃ p q r s : Nat, v = .agg #[.int .u8 p, .int .u8 q, .int .u8 r, .int .u8 s] ∧ Four (p, q, r, s) := by
 obtain ⟨cs, rfl, _⟩ := okWide_array Tryz.underlying146 hval
 obtain ⟨fuel, hf⟩ := h
 obtain ⟨p, q, r, s, hc, h4⟩ := four_cells hf
 refine ⟨p, q, r, s, ?_, h4⟩
 congr 1
 exact Array.toList_inj.1 hc
end
end
section
open Go.ChangeShapes Go.WideShapes Go.ChangeAt Go.RowKit
theorem list_of {α : Type} (n : Nat) (P : Nat → α → Prop) (h : ∀ i, i < n → ∃ r, P i r) : ∃ l : List α, l.length = n ∧ ∀ i r, l[i]? = some r → P i r := by
 induction n with
 | zero => exact ⟨[], rfl, fun i r h => by simp at h⟩
 | succ n ih =>
  obtain ⟨l, hl, hp⟩ := ih (fun i hi => h i (by omega))
  obtain ⟨r, hr⟩ := h n (by omega)
  refine ⟨l ++ [r], by simp [hl], fun i x hx => ?_⟩
  by_cases hi : i < n
  ·exact hp i x (by rw [← hx, List.getElem?_append_left (by omega)])
  ·rw [List.getElem?_append_right (by omega)] at hx
   have hi0 : i - l.length = 0 := by
    have := (List.getElem?_eq_some_iff.1 hx).1
    simp at this
    omega
   rw [hi0] at hx
   simp at hx
   subst hx
   have : i = n := by omega
   rw [this]; exact hr
section
variable {H : Type} {enc : TypeId × Value → H} {W : World}
theorem row_is {P : Program} {t e : TypeId} {α : Type} (R : World → α → List Value → Prop) (sz : Nat) (h0 : 0 < sz) (ht : P.underlying t = some (.slice e)) (hc : P.cellsOf e = sz)
  (helem : ∀ (fuel : Nat) (cs : List Value) (x : DataW H × List MemPlace), DataW.trod enc P W 0 (fun _ => true) true fuel e cs = some x → SizedD P e x.1 → ∃ a : α, cs.length = sz ∧ R W a cs)
  {fuel : Nat} {cs : List Value} {x : DataW H × List MemPlace} (h : DataW.trod enc P W 0 (fun _ => true) true fuel t cs = some x) (hsz : SizedD P t x.1) :
  ∃ (A : Option Addr) (l : List α) (c : Nat), cs = [.slice A l.length c] ∧ RdL R (fun _ => True) sz W A l ∧ l.length ≤ c ∧ c ≤ maxLen := by
 rcases Go.Deep.open_slice ht h with ⟨h0, _⟩ | ⟨a', len', cap', m, n, Dd, Pl, h0', _, hl, hm, hmm, hdx, hcell⟩
 ·exact ⟨none, [], 0, h0, fun i r h => by simp at h, Nat.le_refl _, by simp⟩
 ·simp only [if_true] at hmm
  rw [hdx] at hsz
  obtain ⟨l, hll, hlp⟩ := list_of len' (fun i (r : α) => ∃ cs', W.cells? 0 (a'.add (i * sz)) sz = some cs' ∧ cs'.length = sz ∧ R W r cs') (fun i hi => by
    obtain ⟨cs', h1, h2⟩ := hcell i (by omega)
    rw [hc] at h1
    obtain ⟨r, hr, ho⟩ := helem _ _ _ h2 (hsz.elem ht (List.mem_map.2 ⟨i, List.mem_range.2 hi, rfl⟩))
    exact ⟨r, cs', h1, hr, ho⟩)
  refine ⟨some a', l, cap', by rw [hll]; exact h0', ?_, by omega, hm⟩
  intro i r hr
  have hpos : 0 < l.length := by have := (List.getElem?_eq_some_iff.1 hr).1; omega
  obtain ⟨cs', h1, hl', ho⟩ := hlp i r hr
  obtain ⟨cs0, h10, hl0, _⟩ := hlp 0 l[0] (List.getElem?_eq_getElem hpos)
  obtain ⟨_, _, hcc⟩ := World.cells?_some h1
  obtain ⟨_, _, hc0⟩ := World.cells?_some h10
  have h00 := hc0 0 (by omega)
  rw [List.getElem?_eq_getElem (by omega)] at h00
  obtain ⟨b, off, spot⟩ := a'
  have hspot : spot = none := by
   have := World.cell?_spot h00
   simpa [Addr.add] using this
  subst hspot
  refine ⟨b, off, cs', rfl, trivial, hl', fun j v hv => ?_, ho⟩
  have hj : j < sz := by have := (List.getElem?_eq_some_iff.1 hv).1; omega
  have := hcc j hj
  rw [Go.WideShapes.add_plain, Go.WideShapes.add_plain] at this
  rw [this]
  exact hv
set_option maxRecDepth 100000 in
theorem win_cells {fuel : Nat} {cs : List Value} {x : DataW H × List MemPlace} (h : DataW.trod enc Tryz.prog W 0 (fun _ => true) true fuel 49 cs = some x) (hsz : SizedD Tryz.prog 49 x.1) : ∃ a : Win, cs.length = 2 ∧ winV W a cs := by
 obtain ⟨xs, n, _, hxe, hl, hxl, hx⟩ := DataW.trod_struct Tryz.underlying49 h
 rw [hxe] at hsz
 have hl' : cs.length = 2 := hl.trans (by kernel_rfl)
 have hxl' : xs.length = 2 := hxl
 have q0 : DataW.trod enc Tryz.prog W 0 (fun _ => true) true n 3 ((cs.drop 0).take (Tryz.prog.cellsOf 3)) = xs[0]? := hx 0 _ rfl
 rw [List.getElem?_eq_getElem (by omega), show Tryz.prog.cellsOf 3 = 1 by kernel_rfl] at q0
 have q1 : DataW.trod enc Tryz.prog W 0 (fun _ => true) true n 3 ((cs.drop 1).take (Tryz.prog.cellsOf 3)) = xs[1]? := hx 1 _ rfl
 rw [List.getElem?_eq_getElem (by omega), show Tryz.prog.cellsOf 3 = 1 by kernel_rfl] at q1
 obtain ⟨f0, g0, _, b0'⟩ := DataW.trod_int Tryz.underlying3 q0
 have b0 := _root_.Go.bounds_i64 b0'
 clear b0'
 have e0 := one_of_take g0
 obtain ⟨f1, g1, _, b1'⟩ := DataW.trod_int Tryz.underlying3 q1
 have b1 := _root_.Go.bounds_i64 b1'
 clear b1'
 have e1 := one_of_take g1
 match cs, hl', e0, e1 with
 | [w0, w1], _, e0, e1 =>
  simp only [List.getElem?_cons_zero, List.getElem?_cons_succ, Option.some.injEq, Nat.reduceAdd] at e0 e1
  subst e0 e1
  exact ⟨⟨f0, f1⟩, rfl, rfl, b0, b1⟩
set_option maxRecDepth 100000 in
theorem ch_cells {fuel : Nat} {cs : List Value} {x : DataW H × List MemPlace} (h : DataW.trod enc Tryz.prog W 0 (fun _ => true) true fuel 93 cs = some x) (hsz : SizedD Tryz.prog 93 x.1) : ∃ a : Ch, cs.length = 5 ∧ chV W a cs := by
 obtain ⟨xs, n, _, hxe, hl, hxl, hx⟩ := DataW.trod_struct Tryz.underlying93 h
 rw [hxe] at hsz
 have hl' : cs.length = 5 := hl.trans (by kernel_rfl)
 have hxl' : xs.length = 5 := hxl
 have q0 : DataW.trod enc Tryz.prog W 0 (fun _ => true) true n 3 ((cs.drop 0).take (Tryz.prog.cellsOf 3)) = xs[0]? := hx 0 _ rfl
 rw [List.getElem?_eq_getElem (by omega), show Tryz.prog.cellsOf 3 = 1 by kernel_rfl] at q0
 have q1 : DataW.trod enc Tryz.prog W 0 (fun _ => true) true n 3 ((cs.drop 1).take (Tryz.prog.cellsOf 3)) = xs[1]? := hx 1 _ rfl
 rw [List.getElem?_eq_getElem (by omega), show Tryz.prog.cellsOf 3 = 1 by kernel_rfl] at q1
 have q2 : DataW.trod enc Tryz.prog W 0 (fun _ => true) true n 3 ((cs.drop 2).take (Tryz.prog.cellsOf 3)) = xs[2]? := hx 2 _ rfl
 rw [List.getElem?_eq_getElem (by omega), show Tryz.prog.cellsOf 3 = 1 by kernel_rfl] at q2
 have q3 : DataW.trod enc Tryz.prog W 0 (fun _ => true) true n 3 ((cs.drop 3).take (Tryz.prog.cellsOf 3)) = xs[3]? := hx 3 _ rfl
 rw [List.getElem?_eq_getElem (by omega), show Tryz.prog.cellsOf 3 = 1 by kernel_rfl] at q3
 have q4 : DataW.trod enc Tryz.prog W 0 (fun _ => true) true n 3 ((cs.drop 4).take (Tryz.prog.cellsOf 3)) = xs[4]? := hx 4 _ rfl
 rw [List.getElem?_eq_getElem (by omega), show Tryz.prog.cellsOf 3 = 1 by kernel_rfl] at q4
 obtain ⟨f0, g0, _, b0'⟩ := DataW.trod_int Tryz.underlying3 q0
 have b0 := _root_.Go.bounds_i64 b0'
 clear b0'
 have e0 := one_of_take g0
 obtain ⟨f1, g1, _, b1'⟩ := DataW.trod_int Tryz.underlying3 q1
 have b1 := _root_.Go.bounds_i64 b1'
 clear b1'
 have e1 := one_of_take g1
 obtain ⟨f2, g2, _, b2'⟩ := DataW.trod_int Tryz.underlying3 q2
 have b2 := _root_.Go.bounds_i64 b2'
 clear b2'
 have e2 := one_of_take g2
 obtain ⟨f3, g3, _, b3'⟩ := DataW.trod_int Tryz.underlying3 q3
 have b3 := _root_.Go.bounds_i64 b3'
 clear b3'
 have e3 := one_of_take g3
 obtain ⟨f4, g4, _, b4'⟩ := DataW.trod_int Tryz.underlying3 q4
 have b4 := _root_.Go.bounds_i64 b4'
 clear b4'
 have e4 := one_of_take g4
 match cs, hl', e0, e1, e2, e3, e4 with
 | [w0, w1, w2, w3, w4], _, e0, e1, e2, e3, e4 =>
  simp only [List.getElem?_cons_zero, List.getElem?_cons_succ, Option.some.injEq, Nat.reduceAdd] at e0 e1 e2 e3 e4
  subst e0 e1 e2 e3 e4
  exact ⟨⟨f0, f1, f2, f3, f4⟩, rfl, rfl, b0, b1, b2, b3, b4⟩
set_option maxRecDepth 100000 in
theorem pn_cells {fuel : Nat} {cs : List Value} {x : DataW H × List MemPlace} (h : DataW.trod enc Tryz.prog W 0 (fun _ => true) true fuel 83 cs = some x) (hsz : SizedD Tryz.prog 83 x.1) : ∃ a : Pn, cs.length = 5 ∧ (pnV (fun _ => True)) W a cs := by
 obtain ⟨xs, n, _, hxe, hl, hxl, hx⟩ := DataW.trod_struct Tryz.underlying83 h
 rw [hxe] at hsz
 have hl' : cs.length = 5 := hl.trans (by kernel_rfl)
 have hxl' : xs.length = 4 := hxl
 have q0 : DataW.trod enc Tryz.prog W 0 (fun _ => true) true n 3 ((cs.drop 0).take (Tryz.prog.cellsOf 3)) = xs[0]? := hx 0 _ rfl
 rw [List.getElem?_eq_getElem (by omega), show Tryz.prog.cellsOf 3 = 1 by kernel_rfl] at q0
 have q1 : DataW.trod enc Tryz.prog W 0 (fun _ => true) true n 81 ((cs.drop 1).take (Tryz.prog.cellsOf 81)) = xs[1]? := hx 1 _ rfl
 rw [List.getElem?_eq_getElem (by omega), show Tryz.prog.cellsOf 81 = 2 by kernel_rfl] at q1
 have q2 : DataW.trod enc Tryz.prog W 0 (fun _ => true) true n 4 ((cs.drop 3).take (Tryz.prog.cellsOf 4)) = xs[2]? := hx 2 _ rfl
 rw [List.getElem?_eq_getElem (by omega), show Tryz.prog.cellsOf 4 = 1 by kernel_rfl] at q2
 have q3 : DataW.trod enc Tryz.prog W 0 (fun _ => true) true n 50 ((cs.drop 4).take (Tryz.prog.cellsOf 50)) = xs[3]? := hx 3 _ rfl
 rw [List.getElem?_eq_getElem (by omega), show Tryz.prog.cellsOf 50 = 1 by kernel_rfl] at q3
 obtain ⟨f0, g0, _, b0'⟩ := DataW.trod_int Tryz.underlying3 q0
 have b0 := _root_.Go.bounds_i64 b0'
 clear b0'
 have e0 := one_of_take g0
 obtain ⟨ys, n2, _, _, hyl, hyl2, hy⟩ := DataW.trod_struct Tryz.underlying81 q1
 have hyl' : ys.length = 2 := hyl2
 have qa : DataW.trod enc Tryz.prog W 0 (fun _ => true) true n2 3 ((((cs.drop 1).take 2).drop 0).take (Tryz.prog.cellsOf 3)) = ys[0]? := hy 0 _ rfl
 have qb : DataW.trod enc Tryz.prog W 0 (fun _ => true) true n2 3 ((((cs.drop 1).take 2).drop 1).take (Tryz.prog.cellsOf 3)) = ys[1]? := hy 1 _ rfl
 rw [List.getElem?_eq_getElem (by omega), show Tryz.prog.cellsOf 3 = 1 by kernel_rfl] at qa qb
 obtain ⟨fa, ga, _, ba⟩ := DataW.trod_int Tryz.underlying3 qa
 obtain ⟨fb, gb, _, bb⟩ := DataW.trod_int Tryz.underlying3 qb
 have ba := _root_.Go.bounds_i64 ba
 have bb := _root_.Go.bounds_i64 bb
 have ea := one_of_take ga
 have eb := one_of_take gb
 rw [List.getElem?_take_of_lt (by omega), List.getElem?_drop] at ea eb
 obtain ⟨f2, g2, _⟩ := DataW.trod_bool Tryz.underlying4 q2
 have e2 := one_of_take g2
 obtain ⟨B3, f3, c3, g3, r3, u3, v3, s3'⟩ := bytes_is Tryz.underlying50 Tryz.underlying5 (by kernel_rfl) q3
 have s3 := s3' (by kernel_rfl) (hsz.field Tryz.underlying83 (i := 3) rfl (by rw [List.getElem?_map, List.getElem?_eq_getElem (by omega)]; rfl))
 clear s3'
 have e3 := one_of_take g3
 match cs, hl', e0, ea, eb, e2, e3 with
 | [w0, w1, w2, w3, w4], _, e0, ea, eb, e2, e3 =>
  simp only [List.getElem?_cons_zero, List.getElem?_cons_succ, Option.some.injEq, Nat.reduceAdd] at e0 ea eb e2 e3
  subst e0 ea eb e2 e3
  exact ⟨⟨f0, fa, fb, f2, f3⟩, rfl, _, rfl, ⟨B3, c3, rfl, u3, v3, r3, fun _ _ _ _ => trivial⟩, ⟨b0, ba, bb⟩, Nat.le_trans u3 s3⟩
set_option maxRecDepth 100000 in
theorem actk_cells {fuel : Nat} {cs : List Value} {x : DataW H × List MemPlace} (h : DataW.trod enc Tryz.prog W 0 (fun _ => true) true fuel 52 cs = some x) (hsz : SizedD Tryz.prog 52 x.1) : ∃ a : Ak, cs.length = 4 ∧ (actV (fun _ => True)) W a cs := by
 obtain ⟨xs, n, _, hxe, hl, hxl, hx⟩ := DataW.trod_struct Tryz.underlying52 h
 rw [hxe] at hsz
 have hl' : cs.length = 4 := hl.trans (by kernel_rfl)
 have hxl' : xs.length = 4 := hxl
 have q0 : DataW.trod enc Tryz.prog W 0 (fun _ => true) true n 5 ((cs.drop 0).take (Tryz.prog.cellsOf 5)) = xs[0]? := hx 0 _ rfl
 rw [List.getElem?_eq_getElem (by omega), show Tryz.prog.cellsOf 5 = 1 by kernel_rfl] at q0
 have q1 : DataW.trod enc Tryz.prog W 0 (fun _ => true) true n 3 ((cs.drop 1).take (Tryz.prog.cellsOf 3)) = xs[1]? := hx 1 _ rfl
 rw [List.getElem?_eq_getElem (by omega), show Tryz.prog.cellsOf 3 = 1 by kernel_rfl] at q1
 have q2 : DataW.trod enc Tryz.prog W 0 (fun _ => true) true n 3 ((cs.drop 2).take (Tryz.prog.cellsOf 3)) = xs[2]? := hx 2 _ rfl
 rw [List.getElem?_eq_getElem (by omega), show Tryz.prog.cellsOf 3 = 1 by kernel_rfl] at q2
 have q3 : DataW.trod enc Tryz.prog W 0 (fun _ => true) true n 50 ((cs.drop 3).take (Tryz.prog.cellsOf 50)) = xs[3]? := hx 3 _ rfl
 rw [List.getElem?_eq_getElem (by omega), show Tryz.prog.cellsOf 50 = 1 by kernel_rfl] at q3
 obtain ⟨z0, g0, _, b0'⟩ := DataW.trod_int Tryz.underlying5 q0
 obtain ⟨f0, rfl, b0⟩ := u8_nat b0'
 clear b0'
 have e0 := one_of_take g0
 obtain ⟨f1, g1, _, b1'⟩ := DataW.trod_int Tryz.underlying3 q1
 have b1 := _root_.Go.bounds_i64 b1'
 clear b1'
 have e1 := one_of_take g1
 obtain ⟨f2, g2, _, b2'⟩ := DataW.trod_int Tryz.underlying3 q2
 have b2 := _root_.Go.bounds_i64 b2'
 clear b2'
 have e2 := one_of_take g2
 obtain ⟨B3, f3, c3, g3, r3, u3, v3, s3'⟩ := bytes_is Tryz.underlying50 Tryz.underlying5 (by kernel_rfl) q3
 have s3 := s3' (by kernel_rfl) (hsz.field Tryz.underlying52 (i := 3) rfl (by rw [List.getElem?_map, List.getElem?_eq_getElem (by omega)]; rfl))
 clear s3'
 have e3 := one_of_take g3
 match cs, hl', e0, e1, e2, e3 with
 | [w0, w1, w2, w3], _, e0, e1, e2, e3 =>
  simp only [List.getElem?_cons_zero, List.getElem?_cons_succ, Option.some.injEq, Nat.reduceAdd] at e0 e1 e2 e3
  subst e0 e1 e2 e3
  exact ⟨⟨f0, f1, f2, f3⟩, rfl, _, rfl, ⟨B3, c3, rfl, u3, v3, r3, fun _ _ _ _ => trivial⟩, b0, b1, b2⟩
theorem msg_cells {fuel : Nat} {cs : List Value} {x : DataW H × List MemPlace} (h : DataW.trod enc Tryz.prog W 0 (fun _ => true) true fuel 50 cs = some x) (hsz : SizedD Tryz.prog 50 x.1) : ∃ a : List UInt8, cs.length = 1 ∧ (msgV (fun _ => True)) W a cs := by
 obtain ⟨B, l, c, rfl, r, u, v, s⟩ := bytes_is Tryz.underlying50 Tryz.underlying5 (by kernel_rfl) h
 have s := s (by kernel_rfl) hsz
 exact ⟨l, rfl, _, rfl, ⟨B, c, rfl, u, v, r, fun _ _ _ _ => trivial⟩, Nat.le_trans u s⟩
set_option maxRecDepth 100000 in
theorem open_actk {r0 : Reach} {b0 : Nat} {v : Value} {d : DataW H} {ps : List MemPlace} (hval : Value.okWide Tryz.prog W r0 b0 31 v) (h : DataW.Trod enc Tryz.prog W 0 (fun _ => true) true 31 v d ps) (hsz : SizedD Tryz.prog 31 d) :
  ∃ (B : Option Addr) (l : List Ak) (c : Nat), v = .slice B l.length c ∧ RdL (actV (fun _ => True)) (fun _ => True) 4 W B l ∧ l.length ≤ c ∧ c ≤ maxLen := by
 obtain ⟨a, len, cap, rfl⟩ := okWide_slice Tryz.underlying31 hval
 obtain ⟨fuel, hf⟩ := h
 obtain ⟨A, l, c, h1, h2, h3, h4⟩ := row_is (actV (fun _ => True)) 4 (by decide) Tryz.underlying31 (by kernel_rfl) (fun _ _ _ => actk_cells) hf hsz
 simp only [Value.cells, List.cons.injEq, and_true] at h1
 exact ⟨A, l, c, h1, h2, h3, h4⟩
set_option maxRecDepth 100000 in
theorem open_msgs {r0 : Reach} {b0 : Nat} {v : Value} {d : DataW H} {ps : List MemPlace} (hval : Value.okWide Tryz.prog W r0 b0 79 v) (h : DataW.Trod enc Tryz.prog W 0 (fun _ => true) true 79 v d ps) (hsz : SizedD Tryz.prog 79 d) :
  ∃ (B : Option Addr) (l : List (List UInt8)) (c : Nat), v = .slice B l.length c ∧ RdL (msgV (fun _ => True)) (fun _ => True) 1 W B l ∧ l.length ≤ c ∧ c ≤ maxLen := by
 obtain ⟨a, len, cap, rfl⟩ := okWide_slice Tryz.underlying79 hval
 obtain ⟨fuel, hf⟩ := h
 obtain ⟨A, l, c, h1, h2, h3, h4⟩ := row_is (msgV (fun _ => True)) 1 (by decide) Tryz.underlying79 (by kernel_rfl) (fun _ _ _ => msg_cells) hf hsz
 simp only [Value.cells, List.cons.injEq, and_true] at h1
 exact ⟨A, l, c, h1, h2, h3, h4⟩
set_option maxRecDepth 100000 in
theorem open_cfg {r0 : Reach} {b0 : Nat} {v : Value} {d : DataW H} {ps : List MemPlace} (hval : Value.okWide Tryz.prog W r0 b0 26 v) (h : DataW.Trod enc Tryz.prog W 0 (fun _ => true) true 26 v d ps) (hsz : SizedD Tryz.prog 26 d) :
  ∃ (c : Cfg) (A1 A2 A3 : Option Addr) (c1 c2 c3 : Nat), v = .agg #[.slice A1 c.ws.length c1, .slice A2 c.ps.length c2, .slice A3 c.cs.length c3] ∧ CfgR (fun _ => True) W c A1 A2 A3 c1 c2 c3 := by
 obtain ⟨cs, rfl, _⟩ := okWide_struct Tryz.underlying26 hval
 obtain ⟨fuel, hf⟩ := h
 obtain ⟨xs, n, _, hxe, hl, hxl, hx⟩ := DataW.trod_struct Tryz.underlying26 hf
 have hxe := (Prod.mk.inj hxe).1
 rw [hxe] at hsz
 have hl' : cs.toList.length = 3 := hl.trans (by kernel_rfl)
 have hxl' : xs.length = 3 := hxl
 have q0 : DataW.trod enc Tryz.prog W 0 (fun _ => true) true n 22 ((cs.toList.drop 0).take (Tryz.prog.cellsOf 22)) = xs[0]? := hx 0 _ rfl
 rw [List.getElem?_eq_getElem (by omega), show Tryz.prog.cellsOf 22 = 1 by kernel_rfl] at q0
 obtain ⟨A1, l1, c1, g0, r0, u0, v0⟩ := row_is winV 2 (by decide) Tryz.underlying22 (by kernel_rfl) (fun _ _ _ => win_cells) q0 (hsz.field Tryz.underlying26 (i := 0) rfl (by rw [List.getElem?_map, List.getElem?_eq_getElem (by omega)]; rfl))
 have e0 := one_of_take g0
 have q1 : DataW.trod enc Tryz.prog W 0 (fun _ => true) true n 23 ((cs.toList.drop 1).take (Tryz.prog.cellsOf 23)) = xs[1]? := hx 1 _ rfl
 rw [List.getElem?_eq_getElem (by omega), show Tryz.prog.cellsOf 23 = 1 by kernel_rfl] at q1
 obtain ⟨A2, l2, c2, g1, r1, u1, v1⟩ := row_is (pnV (fun _ => True)) 5 (by decide) Tryz.underlying23 (by kernel_rfl) (fun _ _ _ => pn_cells) q1 (hsz.field Tryz.underlying26 (i := 1) rfl (by rw [List.getElem?_map, List.getElem?_eq_getElem (by omega)]; rfl))
 have e1 := one_of_take g1
 have q2 : DataW.trod enc Tryz.prog W 0 (fun _ => true) true n 24 ((cs.toList.drop 2).take (Tryz.prog.cellsOf 24)) = xs[2]? := hx 2 _ rfl
 rw [List.getElem?_eq_getElem (by omega), show Tryz.prog.cellsOf 24 = 1 by kernel_rfl] at q2
 obtain ⟨A3, l3, c3, g2, r2, u2, v2⟩ := row_is chV 5 (by decide) Tryz.underlying24 (by kernel_rfl) (fun _ _ _ => ch_cells) q2 (hsz.field Tryz.underlying26 (i := 2) rfl (by rw [List.getElem?_map, List.getElem?_eq_getElem (by omega)]; rfl))
 have e2 := one_of_take g2
 refine ⟨⟨l1, l2, l3⟩, A1, A2, A3, c1, c2, c3, ?_, r0, r1, r2, ⟨u0, v0⟩, ⟨u1, v1⟩, ⟨u2, v2⟩⟩
 congr 1
 refine Array.toList_inj.1 ?_
 match hcs : cs.toList, hl', e0, e1, e2 with
 | [a, b, c], _, e0, e1, e2 =>
  simp only [List.getElem?_cons_zero, List.getElem?_cons_succ, Option.some.injEq] at e0 e1 e2
  subst e0 e1 e2
  rfl
end
end
section
open Go.ChangeShapes Go.WideShapes Go.ChangeAt Go.RowKit
section
variable {H : Type} {enc : TypeId × Value → H}
theorem returnsIn_cardS {a : Assume} {C : Checked} {os : Os} {f : FuncId} {fn : Func} {s : ChangeSpec} {conds : List PathCond} {apart fresh handsOn again : Bool} {X : World → Array Value → Prop}
  (hX : ∀ (w w' : World) (args : Array Value), w.heap = w'.heap → X w args → X w' args)
  (own : ownKnob C.prog.godebug = none) (started : os.Started) (noInit : C.prog.inits.idxOf? f = none) (hfn : C.prog.funcs[f]? = some fn)
  (witness : ∃ (w : World) (tape : Tape) (i : Input), w.os = os ∧ (w.forCall tape i).Shaped C.prog ∧ i.vars = [] ∧ Input.okWide C.prog (w.forCall tape i) .any w.heap.size f i ∧
    ((s.pre enc C.prog fn conds apart (w.forCall tape i).memory i.args ∧ X (w.forCall tape i).memory i.args) ∧ sizedMet enc C.prog fn (OpenSpec.ofChange s) apart (w.forCall tape i).memory i.args) ∧ a.holds C.prog (lone (Frame.enter C.prog f i.args .normal) [] (w.forCall tape i)))
  (contract : ∀ (W : World) (base : Nat) (args : Array Value) (ds gs : List (DataW H)) (before : List MemPlace),
    (∀ (j : Nat) t v, fn.params[j]? = some t → args[j]? = some v → Value.okWide C.prog W .any base t v) →
    DataW.Whole enc C.prog fn.params.toList s.vars apart W args.toList ds gs before → W.ShapedOpen C.prog → X W args →
    (DataW.weightsEach C.prog (fn.params.toList ++ (OpenSpec.ofChange s).bare.plain.varTypes C.prog) (ds ++ gs)).all (· ≤ reachBytes) = true →
    Calls C.prog f args W fun e W' => ∃ v, e = .returned v ∧ s.post enc C.prog fn apart fresh handsOn again W args v W') :
  ReturnsInHanded a C os f .any (fun w args => (s.pre enc C.prog fn conds apart w args ∧ X w args) ∧ sizedMet enc C.prog fn (OpenSpec.ofChange s) apart w args) (s.post enc C.prog fn apart fresh handsOn again) := by
 refine returnsInHanded_of_calls own started noInit witness ?_
 intro w tape i _ hsh _ hok hpre hholds
 obtain ⟨_, _, _, fn', hfn', _, _, _, _, hval⟩ := hok
 have e : fn' = fn := Option.some.inj (hfn'.symm.trans hfn)
 subst e
 obtain ⟨⟨_, hx⟩, _, ds, gs, before, hw, hz⟩ := hpre
 refine (contract (w.forCall tape i) w.heap.size i.args ds gs before hval (DataW.Whole.of_heap (w' := w.forCall tape i) (by rfl) hw) hsh (hX _ _ _ (by rfl) hx) hz).mono fun e W' ⟨v, he, hp⟩ => ?_
 subst he
 exact ChangeSpec.post_blind hp
end
end
end Go.Proofs.YtmnaleaghfbclaaGreatDoor
