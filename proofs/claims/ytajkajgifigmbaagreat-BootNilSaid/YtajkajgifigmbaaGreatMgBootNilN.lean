/- BootNil, part 14 of 14: contracts of the functions that it reaches, and the laws that they need, merged and shortened (from my texts XBnO). -/
import Derived.Test.YtajkajgifigmbaaGreatMgBootNilB
import Derived.Test.YtajkajgifigmbaaGreatMgBootNilG
import Derived.Test.YtajkajgifigmbaaGreatMgBootNilM
import Derived.Deep.Slices
namespace Go.Proofs.YtajkajgifigmbaaGreat
set_option linter.unusedVariables false
set_option linter.unusedSimpArgs false
set_option maxHeartbeats 8000000
set_option maxRecDepth 100000
section
open Go.ChangeShapes Go.WideShapes Go.ChangeAt Go.RowKit
theorem list_of {α : Type} (n : Nat) (P : Nat → α → Prop) (h : ∀ i, i < n → ∃ r, P i r) : ∃ l : List α, l.length = n ∧ ∀ i r, l[i]? = some r → P i r := by
 induction n with
 | zero => exact ⟨[], rfl, fun i r h => by simp at h⟩
 | succ n ih =>
  obtain ⟨l, hl, hp⟩ := ih (fun i hi => h i (by omega))
  obtain ⟨r, hr⟩ := h n (by omega)
  refine ⟨l ++ [r], by simp [hl], fun i x hx => ?_⟩
  by_cases hi : i < n
  ·exact hp i x (by rw [← hx, List.getElem?_append_left (by omega)])
  ·rw [List.getElem?_append_right (by omega)] at hx
   have hi0 : i - l.length = 0 := by
    have := (List.getElem?_eq_some_iff.1 hx).1
    simp at this
    omega
   rw [hi0] at hx
   simp at hx
   subst hx
   have : i = n := by omega
   rw [this]; exact hr
section
variable {H : Type} {enc : TypeId × Value → H} {W : World}
theorem row_is {P : Program} {t e : TypeId} {α : Type} (R : World → α → List Value → Prop) (sz : Nat) (h0 : 0 < sz) (ht : P.underlying t = some (.slice e)) (hc : P.cellsOf e = sz)
  (helem : ∀ (fuel : Nat) (cs : List Value) (x : DataW H × List MemPlace), DataW.trod enc P W 0 (fun _ => true) true fuel e cs = some x → SizedD P e x.1 → ∃ a : α, cs.length = sz ∧ R W a cs)
  {fuel : Nat} {cs : List Value} {x : DataW H × List MemPlace} (h : DataW.trod enc P W 0 (fun _ => true) true fuel t cs = some x) (hsz : SizedD P t x.1) :
  ∃ (A : Option Addr) (l : List α) (c : Nat), cs = [.slice A l.length c] ∧ RdL R (fun _ => True) sz W A l ∧ l.length ≤ c ∧ c ≤ maxLen := by
 rcases Go.Deep.open_slice ht h with ⟨h0, _⟩ | ⟨a', len', cap', m, n, Dd, Pl, h0', _, hl, hm, hmm, hdx, hcell⟩
 ·exact ⟨none, [], 0, h0, fun i r h => by simp at h, Nat.le_refl _, by simp⟩
 ·simp only [if_true] at hmm
  rw [hdx] at hsz
  obtain ⟨l, hll, hlp⟩ := list_of len' (fun i (r : α) => ∃ cs', W.cells? 0 (a'.add (i * sz)) sz = some cs' ∧ cs'.length = sz ∧ R W r cs') (fun i hi => by
    obtain ⟨cs', h1, h2⟩ := hcell i (by omega)
    rw [hc] at h1
    obtain ⟨r, hr, ho⟩ := helem _ _ _ h2 (hsz.elem ht (List.mem_map.2 ⟨i, List.mem_range.2 hi, rfl⟩))
    exact ⟨r, cs', h1, hr, ho⟩)
  refine ⟨some a', l, cap', by rw [hll]; exact h0', ?_, by omega, hm⟩
  intro i r hr
  have hpos : 0 < l.length := by have := (List.getElem?_eq_some_iff.1 hr).1; omega
  obtain ⟨cs', h1, hl', ho⟩ := hlp i r hr
  obtain ⟨cs0, h10, hl0, _⟩ := hlp 0 l[0] (List.getElem?_eq_getElem hpos)
  obtain ⟨_, _, hcc⟩ := World.cells?_some h1
  obtain ⟨_, _, hc0⟩ := World.cells?_some h10
  have h00 := hc0 0 (by omega)
  rw [List.getElem?_eq_getElem (by omega)] at h00
  obtain ⟨b, off, spot⟩ := a'
  have hspot : spot = none := by
   have := World.cell?_spot h00
   simpa [Addr.add] using this
  subst hspot
  refine ⟨b, off, cs', rfl, trivial, hl', fun j v hv => ?_, ho⟩
  have hj : j < sz := by have := (List.getElem?_eq_some_iff.1 hv).1; omega
  have := hcc j hj
  rw [Go.WideShapes.add_plain, Go.WideShapes.add_plain] at this
  rw [this]
  exact hv
theorem win_cells {fuel : Nat} {cs : List Value} {x : DataW H × List MemPlace} (h : DataW.trod enc Tryz.prog W 0 (fun _ => true) true fuel 211 cs = some x) (hsz : SizedD Tryz.prog 211 x.1) : ∃ a : Win, cs.length = 2 ∧ winV W a cs := by
 obtain ⟨xs, n, _, hxe, hl, hxl, hx⟩ := DataW.trod_struct Tryz.underlying211 h
 rw [hxe] at hsz
 have hl' : cs.length = 2 := hl.trans (by kernel_rfl)
 have hxl' : xs.length = 2 := hxl
 have q0 : DataW.trod enc Tryz.prog W 0 (fun _ => true) true n 3 ((cs.drop 0).take (Tryz.prog.cellsOf 3)) = xs[0]? := hx 0 _ rfl
 rw [List.getElem?_eq_getElem (by omega), show Tryz.prog.cellsOf 3 = 1 by kernel_rfl] at q0
 have q1 : DataW.trod enc Tryz.prog W 0 (fun _ => true) true n 3 ((cs.drop 1).take (Tryz.prog.cellsOf 3)) = xs[1]? := hx 1 _ rfl
 rw [List.getElem?_eq_getElem (by omega), show Tryz.prog.cellsOf 3 = 1 by kernel_rfl] at q1
 obtain ⟨f0, g0, _, b0'⟩ := DataW.trod_int Tryz.underlying3 q0
 have b0 := _root_.Go.bounds_i64 b0'
 clear b0'
 have e0 := one_of_take g0
 obtain ⟨f1, g1, _, b1'⟩ := DataW.trod_int Tryz.underlying3 q1
 have b1 := _root_.Go.bounds_i64 b1'
 clear b1'
 have e1 := one_of_take g1
 match cs, hl', e0, e1 with
 | [w0, w1], _, e0, e1 =>
  simp only [List.getElem?_cons_zero, List.getElem?_cons_succ, Option.some.injEq, Nat.reduceAdd] at e0 e1
  subst e0 e1
  exact ⟨⟨f0, f1⟩, rfl, rfl, b0, b1⟩
theorem ch_cells {fuel : Nat} {cs : List Value} {x : DataW H × List MemPlace} (h : DataW.trod enc Tryz.prog W 0 (fun _ => true) true fuel 217 cs = some x) (hsz : SizedD Tryz.prog 217 x.1) : ∃ a : Ch, cs.length = 5 ∧ chV W a cs := by
 obtain ⟨xs, n, _, hxe, hl, hxl, hx⟩ := DataW.trod_struct Tryz.underlying217 h
 rw [hxe] at hsz
 have hl' : cs.length = 5 := hl.trans (by kernel_rfl)
 have hxl' : xs.length = 5 := hxl
 have q0 : DataW.trod enc Tryz.prog W 0 (fun _ => true) true n 3 ((cs.drop 0).take (Tryz.prog.cellsOf 3)) = xs[0]? := hx 0 _ rfl
 rw [List.getElem?_eq_getElem (by omega), show Tryz.prog.cellsOf 3 = 1 by kernel_rfl] at q0
 have q1 : DataW.trod enc Tryz.prog W 0 (fun _ => true) true n 3 ((cs.drop 1).take (Tryz.prog.cellsOf 3)) = xs[1]? := hx 1 _ rfl
 rw [List.getElem?_eq_getElem (by omega), show Tryz.prog.cellsOf 3 = 1 by kernel_rfl] at q1
 have q2 : DataW.trod enc Tryz.prog W 0 (fun _ => true) true n 3 ((cs.drop 2).take (Tryz.prog.cellsOf 3)) = xs[2]? := hx 2 _ rfl
 rw [List.getElem?_eq_getElem (by omega), show Tryz.prog.cellsOf 3 = 1 by kernel_rfl] at q2
 have q3 : DataW.trod enc Tryz.prog W 0 (fun _ => true) true n 3 ((cs.drop 3).take (Tryz.prog.cellsOf 3)) = xs[3]? := hx 3 _ rfl
 rw [List.getElem?_eq_getElem (by omega), show Tryz.prog.cellsOf 3 = 1 by kernel_rfl] at q3
 have q4 : DataW.trod enc Tryz.prog W 0 (fun _ => true) true n 3 ((cs.drop 4).take (Tryz.prog.cellsOf 3)) = xs[4]? := hx 4 _ rfl
 rw [List.getElem?_eq_getElem (by omega), show Tryz.prog.cellsOf 3 = 1 by kernel_rfl] at q4
 obtain ⟨f0, g0, _, b0'⟩ := DataW.trod_int Tryz.underlying3 q0
 have b0 := _root_.Go.bounds_i64 b0'
 clear b0'
 have e0 := one_of_take g0
 obtain ⟨f1, g1, _, b1'⟩ := DataW.trod_int Tryz.underlying3 q1
 have b1 := _root_.Go.bounds_i64 b1'
 clear b1'
 have e1 := one_of_take g1
 obtain ⟨f2, g2, _, b2'⟩ := DataW.trod_int Tryz.underlying3 q2
 have b2 := _root_.Go.bounds_i64 b2'
 clear b2'
 have e2 := one_of_take g2
 obtain ⟨f3, g3, _, b3'⟩ := DataW.trod_int Tryz.underlying3 q3
 have b3 := _root_.Go.bounds_i64 b3'
 clear b3'
 have e3 := one_of_take g3
 obtain ⟨f4, g4, _, b4'⟩ := DataW.trod_int Tryz.underlying3 q4
 have b4 := _root_.Go.bounds_i64 b4'
 clear b4'
 have e4 := one_of_take g4
 match cs, hl', e0, e1, e2, e3, e4 with
 | [w0, w1, w2, w3, w4], _, e0, e1, e2, e3, e4 =>
  simp only [List.getElem?_cons_zero, List.getElem?_cons_succ, Option.some.injEq, Nat.reduceAdd] at e0 e1 e2 e3 e4
  subst e0 e1 e2 e3 e4
  exact ⟨⟨f0, f1, f2, f3, f4⟩, rfl, rfl, b0, b1, b2, b3, b4⟩
theorem pn_cells {fuel : Nat} {cs : List Value} {x : DataW H × List MemPlace} (h : DataW.trod enc Tryz.prog W 0 (fun _ => true) true fuel 113 cs = some x) (hsz : SizedD Tryz.prog 113 x.1) : ∃ a : Pn, cs.length = 5 ∧ (pnV (fun _ => True)) W a cs := by
 obtain ⟨xs, n, _, hxe, hl, hxl, hx⟩ := DataW.trod_struct Tryz.underlying113 h
 rw [hxe] at hsz
 have hl' : cs.length = 5 := hl.trans (by kernel_rfl)
 have hxl' : xs.length = 4 := hxl
 have q0 : DataW.trod enc Tryz.prog W 0 (fun _ => true) true n 3 ((cs.drop 0).take (Tryz.prog.cellsOf 3)) = xs[0]? := hx 0 _ rfl
 rw [List.getElem?_eq_getElem (by omega), show Tryz.prog.cellsOf 3 = 1 by kernel_rfl] at q0
 have q1 : DataW.trod enc Tryz.prog W 0 (fun _ => true) true n 111 ((cs.drop 1).take (Tryz.prog.cellsOf 111)) = xs[1]? := hx 1 _ rfl
 rw [List.getElem?_eq_getElem (by omega), show Tryz.prog.cellsOf 111 = 2 by kernel_rfl] at q1
 have q2 : DataW.trod enc Tryz.prog W 0 (fun _ => true) true n 4 ((cs.drop 3).take (Tryz.prog.cellsOf 4)) = xs[2]? := hx 2 _ rfl
 rw [List.getElem?_eq_getElem (by omega), show Tryz.prog.cellsOf 4 = 1 by kernel_rfl] at q2
 have q3 : DataW.trod enc Tryz.prog W 0 (fun _ => true) true n 32 ((cs.drop 4).take (Tryz.prog.cellsOf 32)) = xs[3]? := hx 3 _ rfl
 rw [List.getElem?_eq_getElem (by omega), show Tryz.prog.cellsOf 32 = 1 by kernel_rfl] at q3
 obtain ⟨f0, g0, _, b0'⟩ := DataW.trod_int Tryz.underlying3 q0
 have b0 := _root_.Go.bounds_i64 b0'
 clear b0'
 have e0 := one_of_take g0
 obtain ⟨ys, n2, _, _, hyl, hyl2, hy⟩ := DataW.trod_struct Tryz.underlying111 q1
 have hyl' : ys.length = 2 := hyl2
 have qa : DataW.trod enc Tryz.prog W 0 (fun _ => true) true n2 3 ((((cs.drop 1).take 2).drop 0).take (Tryz.prog.cellsOf 3)) = ys[0]? := hy 0 _ rfl
 have qb : DataW.trod enc Tryz.prog W 0 (fun _ => true) true n2 3 ((((cs.drop 1).take 2).drop 1).take (Tryz.prog.cellsOf 3)) = ys[1]? := hy 1 _ rfl
 rw [List.getElem?_eq_getElem (by omega), show Tryz.prog.cellsOf 3 = 1 by kernel_rfl] at qa qb
 obtain ⟨fa, ga, _, ba⟩ := DataW.trod_int Tryz.underlying3 qa
 obtain ⟨fb, gb, _, bb⟩ := DataW.trod_int Tryz.underlying3 qb
 have ba := _root_.Go.bounds_i64 ba
 have bb := _root_.Go.bounds_i64 bb
 have ea := one_of_take ga
 have eb := one_of_take gb
 rw [List.getElem?_take_of_lt (by omega), List.getElem?_drop] at ea eb
 obtain ⟨f2, g2, _⟩ := DataW.trod_bool Tryz.underlying4 q2
 have e2 := one_of_take g2
 obtain ⟨B3, f3, c3, g3, r3, u3, v3, s3'⟩ := bytes_is Tryz.underlying32 Tryz.underlying5 (by kernel_rfl) q3
 have s3 := s3' (by kernel_rfl) (hsz.field Tryz.underlying113 (i := 3) rfl (by rw [List.getElem?_map, List.getElem?_eq_getElem (by omega)]; rfl))
 clear s3'
 have e3 := one_of_take g3
 match cs, hl', e0, ea, eb, e2, e3 with
 | [w0, w1, w2, w3, w4], _, e0, ea, eb, e2, e3 =>
  simp only [List.getElem?_cons_zero, List.getElem?_cons_succ, Option.some.injEq, Nat.reduceAdd] at e0 ea eb e2 e3
  subst e0 ea eb e2 e3
  exact ⟨⟨f0, fa, fb, f2, f3⟩, rfl, _, rfl, ⟨B3, c3, rfl, u3, v3, r3, fun _ _ _ _ => trivial⟩, ⟨b0, ba, bb⟩, Nat.le_trans u3 s3⟩
theorem cfg_cells {fuel : Nat} {cs : List Value} {x : DataW H × List MemPlace} (h : DataW.trod enc Tryz.prog W 0 (fun _ => true) true fuel 28 cs = some x) (hsz : SizedD Tryz.prog 28 x.1) :
  ∃ (c : Cfg) (A1 A2 A3 : Option Addr) (c1 c2 c3 : Nat), cs = [.slice A1 c.ws.length c1, .slice A2 c.ps.length c2, .slice A3 c.cs.length c3] ∧ CfgR (fun _ => True) W c A1 A2 A3 c1 c2 c3 := by
 obtain ⟨xs, n, _, hxe, hl, hxl, hx⟩ := DataW.trod_struct Tryz.underlying28 h
 rw [hxe] at hsz
 have hl' : cs.length = 3 := hl.trans (by kernel_rfl)
 have hxl' : xs.length = 3 := hxl
 have q0 : DataW.trod enc Tryz.prog W 0 (fun _ => true) true n 24 ((cs.drop 0).take (Tryz.prog.cellsOf 24)) = xs[0]? := hx 0 _ rfl
 rw [List.getElem?_eq_getElem (by omega), show Tryz.prog.cellsOf 24 = 1 by kernel_rfl] at q0
 obtain ⟨A1, l1, c1, g0, r0, u0, v0⟩ := row_is winV 2 (by decide) Tryz.underlying24 (by kernel_rfl) (fun _ _ _ => win_cells) q0 (hsz.field Tryz.underlying28 (i := 0) rfl (by rw [List.getElem?_map, List.getElem?_eq_getElem (by omega)]; rfl))
 have e0 := one_of_take g0
 have q1 : DataW.trod enc Tryz.prog W 0 (fun _ => true) true n 25 ((cs.drop 1).take (Tryz.prog.cellsOf 25)) = xs[1]? := hx 1 _ rfl
 rw [List.getElem?_eq_getElem (by omega), show Tryz.prog.cellsOf 25 = 1 by kernel_rfl] at q1
 obtain ⟨A2, l2, c2, g1, r1, u1, v1⟩ := row_is (pnV (fun _ => True)) 5 (by decide) Tryz.underlying25 (by kernel_rfl) (fun _ _ _ => pn_cells) q1 (hsz.field Tryz.underlying28 (i := 1) rfl (by rw [List.getElem?_map, List.getElem?_eq_getElem (by omega)]; rfl))
 have e1 := one_of_take g1
 have q2 : DataW.trod enc Tryz.prog W 0 (fun _ => true) true n 26 ((cs.drop 2).take (Tryz.prog.cellsOf 26)) = xs[2]? := hx 2 _ rfl
 rw [List.getElem?_eq_getElem (by omega), show Tryz.prog.cellsOf 26 = 1 by kernel_rfl] at q2
 obtain ⟨A3, l3, c3, g2, r2, u2, v2⟩ := row_is chV 5 (by decide) Tryz.underlying26 (by kernel_rfl) (fun _ _ _ => ch_cells) q2 (hsz.field Tryz.underlying28 (i := 2) rfl (by rw [List.getElem?_map, List.getElem?_eq_getElem (by omega)]; rfl))
 have e2 := one_of_take g2
 refine ⟨⟨l1, l2, l3⟩, A1, A2, A3, c1, c2, c3, ?_, r0, r1, r2, ⟨u0, v0⟩, ⟨u1, v1⟩, ⟨u2, v2⟩⟩
 match hcs : cs, hl', e0, e1, e2 with
 | [a, b, c], _, e0, e1, e2 =>
  simp only [List.getElem?_cons_zero, List.getElem?_cons_succ, Option.some.injEq] at e0 e1 e2
  subst e0 e1 e2
  rfl
theorem CfgR.bound {c : Cfg} {A1 A2 A3 : Option Addr} {c1 c2 c3 : Nat} (h : CfgR (fun _ => True) W c A1 A2 A3 c1 c2 c3) : CfgR (fun b => b < W.heap.size) W c A1 A2 A3 c1 c2 c3 := by
 have lt : ∀ {b o : Nat} {vs : List Value}, W.rangeAt b o vs → 0 < vs.length → b < W.heap.size := fun {b o vs} hr hl => lt_of_cell (hr 0 vs[0] (List.getElem?_eq_getElem hl))
 refine ⟨fun i a ha => ?_, fun i a ha => ?_, fun i a ha => ?_, h.l1, h.l2, h.l3⟩
 ·obtain ⟨b, o, vs, h1, _, h2, h3, h4⟩ := h.ws i a ha
  exact ⟨b, o, vs, h1, lt h3 (by omega), h2, h3, h4⟩
 ·obtain ⟨b, o, vs, h1, _, h2, h3, m, h4, ⟨B, cB, h5, h6, h7, h8, _⟩, h9, h10⟩ := h.ps i a ha
  refine ⟨b, o, vs, h1, lt h3 (by omega), h2, h3, m, h4, ⟨B, cB, h5, h6, h7, h8, fun b2 o2 e hl => ?_⟩, h9, h10⟩
  obtain ⟨x, r, e2⟩ := List.exists_cons_of_ne_nil hl
  obtain ⟨b', o', e', hc⟩ := h8 0 x (by rw [e2]; rfl)
  rw [e] at e'
  injection e' with e'
  injection e' with q1 q2
  subst q1
  exact lt_of_cell hc
 ·obtain ⟨b, o, vs, h1, _, h2, h3, h4⟩ := h.cs i a ha
  exact ⟨b, o, vs, h1, lt h3 (by omega), h2, h3, h4⟩
theorem open_man {r0 : Reach} {b0 : Nat} {v : Value} {d : DataW H} {ps : List MemPlace} (hval : Value.okWide Tryz.prog W r0 b0 30 v) (h : DataW.Trod enc Tryz.prog W 0 (fun _ => true) true 30 v d ps) (hsz : SizedD Tryz.prog 30 d) :
  ∃ (C : Array Value) (m : Mf) (A1 A2 A3 : Option Addr) (c1 c2 c3 : Nat), v = .agg C ∧ MfR (fun b => b < W.heap.size) W m A1 A2 A3 c1 c2 c3 C := by
 obtain ⟨C, rfl, hok⟩ := okWide_struct Tryz.underlying30 hval
 obtain ⟨fuel, hf⟩ := h
 obtain ⟨xs, n, _, hxe, hl, hxl, hx⟩ := DataW.trod_struct Tryz.underlying30 hf
 have hxe := (Prod.mk.inj hxe).1
 rw [hxe] at hsz
 have hl' : C.toList.length = 69 := hl.trans (by kernel_rfl)
 have hxl' : xs.length = 5 := hxl
 have ci : Tryz.prog.cellsOf 3 = 1 := by kernel_rfl
 have ct : Tryz.prog.cellsOf 23 = 32 := by kernel_rfl
 have cc : Tryz.prog.cellsOf 28 = 3 := by kernel_rfl
 have q0 : DataW.trod enc Tryz.prog W 0 (fun _ => true) true n 3 ((C.toList.drop 0).take (Tryz.prog.cellsOf 3)) = xs[0]? := hx 0 _ rfl
 have q1 : DataW.trod enc Tryz.prog W 0 (fun _ => true) true n 23 ((C.toList.drop 1).take (Tryz.prog.cellsOf 23)) = xs[1]? := hx 1 _ rfl
 have q2 : DataW.trod enc Tryz.prog W 0 (fun _ => true) true n 3 ((C.toList.drop 33).take (Tryz.prog.cellsOf 3)) = xs[2]? := hx 2 _ rfl
 have q3 : DataW.trod enc Tryz.prog W 0 (fun _ => true) true n 28 ((C.toList.drop 34).take (Tryz.prog.cellsOf 28)) = xs[3]? := hx 3 _ rfl
 have q4 : DataW.trod enc Tryz.prog W 0 (fun _ => true) true n 23 ((C.toList.drop 37).take (Tryz.prog.cellsOf 23)) = xs[4]? := hx 4 _ rfl
 rw [List.getElem?_eq_getElem (by omega)] at q0 q1 q2 q3 q4
 rw [ci] at q0 q2
 rw [ct] at q1 q4
 rw [cc] at q3
 obtain ⟨a, ha, _, wa⟩ := DataW.trod_int Tryz.underlying3 q0
 obtain ⟨t, ht, _, wt⟩ := DataW.trod_int Tryz.underlying3 q2
 obtain ⟨l1, hp1, hp2⟩ := open_u8s Tryz.underlying23 Tryz.underlying5 (by kernel_rfl) (by kernel_rfl) q1
 obtain ⟨l4, ht1, ht2⟩ := open_u8s Tryz.underlying23 Tryz.underlying5 (by kernel_rfl) (by kernel_rfl) q4
 obtain ⟨c, A1, A2, A3, c1, c2, c3, hcs, hcr⟩ := cfg_cells q3 (hsz.field Tryz.underlying30 (i := 3) rfl (by rw [List.getElem?_map, List.getElem?_eq_getElem (by omega)]; rfl))
 have at_ : ∀ k v, k < 3 → [Value.slice A1 c.ws.length c1, .slice A2 c.ps.length c2, .slice A3 c.cs.length c3][k]? = some v → C[34 + k]? = some v := fun k v hk hv => by
  rw [← hcs, List.getElem?_take_of_lt hk, List.getElem?_drop, Array.getElem?_toList] at hv
  exact hv
 have e0 := one_of_take ha
 have e2 := one_of_take ht
 rw [Array.getElem?_toList] at e0 e2
 refine ⟨C, ⟨a, l1, t, c, l4⟩, A1, A2, A3, c1, c2, c3, rfl, ⟨by simpa using hl', e0, ?_, e2, at_ 0 _ (by omega) rfl, at_ 1 _ (by omega) rfl, at_ 2 _ (by omega) rfl, ?_, ?_⟩, hcr.bound, ⟨hp2, ht2, _root_.Go.bounds_i64 wa, _root_.Go.bounds_i64 wt, ?_⟩⟩
 ·rw [hp1]; rfl
 ·rw [ht1]; rfl
 ·have cutD : ∀ (L : List Value) (i n : Nat), L.drop i = (L.drop i).take n ++ L.drop (i + n) := fun L i n => by
   rw [← List.drop_drop, List.take_append_drop]
  have hC : C.toList = [.int .i64 a] ++ (l1.map bv ++ ([.int .i64 t] ++ ([.slice A1 c.ws.length c1, .slice A2 c.ps.length c2, .slice A3 c.cs.length c3] ++ (l4.map bv ++ [])))) := by
   rw [← ha, ← hp1, ← ht, ← hcs, ← ht1]
   have h5 : C.toList.drop 69 = [] := List.drop_eq_nil_of_le (by omega)
   rw [← h5, ← cutD C.toList 37 32, ← cutD C.toList 34 3, ← cutD C.toList 33 1, ← cutD C.toList 1 32, ← cutD C.toList 0 1, List.drop_zero]
  rw [← Array.all_toList, hC, List.all_eq_true]
  intro v hv
  simp only [List.mem_append, List.mem_cons, List.not_mem_nil, or_false] at hv
  rcases hv with rfl | hv | rfl | (rfl | rfl | rfl) | hv
  ·rfl
  ·exact bv_one _ _ hv
  ·rfl
  ·rfl
  ·rfl
  ·rfl
  ·exact bv_one _ _ hv
 ·refine ⟨fun x hx => ?_, fun x hx => ?_, fun x hx => ?_⟩
  ·obtain ⟨i, hi⟩ := List.getElem?_of_mem hx
   obtain ⟨_, _, _, _, _, _, _, hw⟩ := hcr.ws i x hi
   exact hw.2
  ·obtain ⟨i, hi⟩ := List.getElem?_of_mem hx
   obtain ⟨_, _, _, _, _, _, _, _, _, _, hw, _⟩ := hcr.ps i x hi
   exact hw
  ·obtain ⟨i, hi⟩ := List.getElem?_of_mem hx
   obtain ⟨_, _, _, _, _, _, _, hw⟩ := hcr.cs i x hi
   exact hw.2
end
end
end Go.Proofs.YtajkajgifigmbaaGreat
