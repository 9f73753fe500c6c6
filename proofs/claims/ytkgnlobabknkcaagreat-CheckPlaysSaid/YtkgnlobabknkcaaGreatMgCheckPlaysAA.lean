/- CheckPlays, part 27 of 27: contracts of the functions that it reaches, and the laws that they need, merged and shortened (from my texts XCkOpen, XCkS, XCkV, XCkX, XCkM, XCkRw, XCkW, XCkRo, XCkOpenO, XCkOpenA). -/
import Derived.Test.YtkgnlobabknkcaaGreatMgCheckPlaysA
import Derived.Test.YtkgnlobabknkcaaGreatMgCheckPlaysB
import Derived.Test.YtkgnlobabknkcaaGreatMgCheckPlaysJ
import Derived.Test.YtkgnlobabknkcaaGreatMgCheckPlaysQ
import Derived.Test.YtkgnlobabknkcaaGreatMgCheckPlaysR
import Derived.Test.YtkgnlobabknkcaaGreatMgCheckPlaysT
import Derived.Test.YtkgnlobabknkcaaGreatMgCheckPlaysX
import Derived.Test.YtkgnlobabknkcaaGreatMgCheckPlaysZ
import Derived.Deep.Slices
namespace Go.Proofs.YtkgnlobabknkcaaGreat
set_option linter.unusedVariables false
set_option linter.unusedSimpArgs false
set_option maxHeartbeats 8000000
set_option maxRecDepth 100000
section
open Go.ChangeShapes Go.WideShapes Go.ChangeAt Go.RowKit
theorem list_of {α : Type} (n : Nat) (P : Nat → α → Prop) (h : ∀ i, i < n → ∃ r, P i r) : ∃ l : List α, l.length = n ∧ ∀ i r, l[i]? = some r → P i r := by
 induction n with
 | zero => exact ⟨[], rfl, fun i r h => by simp at h⟩
 | succ n ih =>
  obtain ⟨l, hl, hp⟩ := ih (fun i hi => h i (by omega))
  obtain ⟨r, hr⟩ := h n (by omega)
  refine ⟨l ++ [r], by simp [hl], fun i x hx => ?_⟩
  by_cases hi : i < n
  ·exact hp i x (by rw [← hx, List.getElem?_append_left (by omega)])
  ·rw [List.getElem?_append_right (by omega)] at hx
   have hi0 : i - l.length = 0 := by
    have := (List.getElem?_eq_some_iff.1 hx).1
    simp at this
    omega
   rw [hi0] at hx
   simp at hx
   subst hx
   have : i = n := by omega
   rw [this]; exact hr
theorem one_of_take {cs : List Value} {k : Nat} {v : Value} (h : (cs.drop k).take 1 = [v]) : cs[k]? = some v := by
 have h1 : ((cs.drop k).take 1)[0]? = some v := by rw [h]; rfl
 rw [List.getElem?_take_of_lt (by omega), List.getElem?_drop, Nat.add_zero] at h1
 exact h1
theorem u8_nat {k : Int} (h : (Lit.int .u8 k).wf = true) : ∃ n : Nat, k = n ∧ n < 256 := by
 obtain ⟨h1, h2⟩ := bounds_u8 h
 exact ⟨k.toNat, by omega, by omega⟩
section
variable {H : Type} {enc : TypeId × Value → H} {W : World}
theorem row_len {P : Program} {t e : TypeId} {fuel : Nat} {cs : List Value} {x : DataW H × List MemPlace} {A : Option Addr} {n c : Nat} (ht : P.underlying t = some (.slice e)) (hb : 1 ≤ P.bytesOf e) (h : DataW.trod enc P W 0 (fun _ => true) true fuel t cs = some x) (hsz : SizedD P t x.1) (hcs : cs = [.slice A n c]) : n ≤ 140737488351232 := by
 rcases Go.Deep.open_slice ht h with ⟨h0, _⟩ | ⟨a', len', cap', m, n', Dd, Pl, h0', _, hl, hm, hmm, hdx, hcell⟩
 ·rw [hcs] at h0; injection h0 with h0; injection h0 with _ h0 _; omega
 ·rw [hcs] at h0'
  injection h0' with h0'
  injection h0' with _ h1 _
  rw [hdx] at hsz
  have := hsz.len ht
  simp only [List.length_map, List.length_range] at this
  simp only [reachBytes] at this
  have h3 : len' ≤ (len' + (m - len')) * P.bytesOf e := Nat.le_trans (Nat.le_add_right _ _) (Nat.le_mul_of_pos_right _ (by omega))
  omega
theorem row_is {P : Program} {t e : TypeId} {α : Type} (R : World → α → List Value → Prop) (sz : Nat) (h0 : 0 < sz) (ht : P.underlying t = some (.slice e)) (hc : P.cellsOf e = sz)
  (helem : ∀ (fuel : Nat) (cs : List Value) (x : DataW H × List MemPlace), DataW.trod enc P W 0 (fun _ => true) true fuel e cs = some x → SizedD P e x.1 → ∃ a : α, cs.length = sz ∧ R W a cs)
  {fuel : Nat} {cs : List Value} {x : DataW H × List MemPlace} (h : DataW.trod enc P W 0 (fun _ => true) true fuel t cs = some x) (hsz : SizedD P t x.1) :
  ∃ (A : Option Addr) (l : List α) (c : Nat), cs = [.slice A l.length c] ∧ RdL R (fun _ => True) sz W A l ∧ l.length ≤ c ∧ c ≤ maxLen := by
 rcases Go.Deep.open_slice ht h with ⟨h0, _⟩ | ⟨a', len', cap', m, n, Dd, Pl, h0', _, hl, hm, hmm, hdx, hcell⟩
 ·exact ⟨none, [], 0, h0, fun i r h => by simp at h, Nat.le_refl _, by simp⟩
 ·simp only [if_true] at hmm
  rw [hdx] at hsz
  obtain ⟨l, hll, hlp⟩ := list_of len' (fun i (r : α) => ∃ cs', W.cells? 0 (a'.add (i * sz)) sz = some cs' ∧ cs'.length = sz ∧ R W r cs') (fun i hi => by
    obtain ⟨cs', h1, h2⟩ := hcell i (by omega)
    rw [hc] at h1
    obtain ⟨r, hr, ho⟩ := helem _ _ _ h2 (hsz.elem ht (List.mem_map.2 ⟨i, List.mem_range.2 hi, rfl⟩))
    exact ⟨r, cs', h1, hr, ho⟩)
  refine ⟨some a', l, cap', by rw [hll]; exact h0', ?_, by omega, hm⟩
  intro i r hr
  have hpos : 0 < l.length := by have := (List.getElem?_eq_some_iff.1 hr).1; omega
  obtain ⟨cs', h1, hl', ho⟩ := hlp i r hr
  obtain ⟨cs0, h10, hl0, _⟩ := hlp 0 l[0] (List.getElem?_eq_getElem hpos)
  obtain ⟨_, _, hcc⟩ := World.cells?_some h1
  obtain ⟨_, _, hc0⟩ := World.cells?_some h10
  have h00 := hc0 0 (by omega)
  rw [List.getElem?_eq_getElem (by omega)] at h00
  obtain ⟨b, off, spot⟩ := a'
  have hspot : spot = none := by
   have := World.cell?_spot h00
   simpa [Addr.add] using this
  subst hspot
  refine ⟨b, off, cs', rfl, trivial, hl', fun j v hv => ?_, ho⟩
  have hj : j < sz := by have := (List.getElem?_eq_some_iff.1 hv).1; omega
  have := hcc j hj
  rw [Go.WideShapes.add_plain, Go.WideShapes.add_plain] at this
  rw [this]
  exact hv
variable {base : Nat} {sp : Nat → Bool} {hd : Bool}
theorem u32_nat {k : Int} (h : (Lit.int .u32 k).wf = true) : ∃ n : Nat, k = n ∧ n < 4294967296 := by
 obtain ⟨h1, h2⟩ := bounds_u32 h
 exact ⟨k.toNat, by omega, by omega⟩
theorem regs_cells {fuel : Nat} {cs : List Value} {x : DataW H × List MemPlace} (h : DataW.trod enc Tryz.prog W 0 (fun _ => true) true fuel 102 cs = some x) : ∀ i, i < 8 → ∃ b : Nat, cs[i]? = some (.int .u32 b) ∧ b < 4294967296 := by
 obtain ⟨xs, m, _, _, hl, hxl, hx⟩ := DataW.trod_array Tryz.underlying102 h
 have c8 : Tryz.prog.cellsOf 102 = 8 := by kernel_rfl
 have c1 : Tryz.prog.cellsOf 76 = 1 := by kernel_rfl
 rw [c8] at hl
 intro i hi
 have hq := hx i hi
 rw [c1, Nat.mul_one, List.getElem?_eq_getElem (by omega)] at hq
 obtain ⟨k, hk, _, hw⟩ := DataW.trod_int Tryz.underlying76 hq
 obtain ⟨n, rfl, hn⟩ := u32_nat hw
 exact ⟨n, one_of_take hk, hn⟩
theorem msg_cells {fuel : Nat} {cs : List Value} {x : DataW H × List MemPlace} (h : DataW.trod enc Tryz.prog W 0 (fun _ => true) true fuel 29 cs = some x) (hsz : SizedD Tryz.prog 29 x.1) : ∃ a : List UInt8, cs.length = 1 ∧ (msgV (fun _ => True)) W a cs := by
 obtain ⟨B, l, c, rfl, r, u, v, s⟩ := bytes_is Tryz.underlying29 Tryz.underlying5 (by kernel_rfl) h
 have s := s (by kernel_rfl) hsz
 exact ⟨l, rfl, _, rfl, ⟨B, c, rfl, u, v, r, fun _ _ _ _ => trivial⟩, Nat.le_trans u s⟩
theorem qu_cells {fuel : Nat} {cs : List Value} {x : DataW H × List MemPlace} (h : DataW.trod enc Tryz.prog W 0 (fun _ => true) true fuel 110 cs = some x) (hsz : SizedD Tryz.prog 110 x.1) : ∃ a : Qu, cs.length = 6 ∧ (quV (fun _ => True)) W a cs := by
 obtain ⟨xs, n, _, hxe, hl, hxl, hx⟩ := DataW.trod_struct Tryz.underlying110 h
 rw [hxe] at hsz
 have hl' : cs.length = 6 := hl.trans (by kernel_rfl)
 have hxl' : xs.length = 2 := hxl
 have q0 : DataW.trod enc Tryz.prog W 0 (fun _ => true) true n 107 ((cs.drop 0).take (Tryz.prog.cellsOf 107)) = xs[0]? := hx 0 _ rfl
 rw [List.getElem?_eq_getElem (by omega), show Tryz.prog.cellsOf 107 = 5 by kernel_rfl] at q0
 have q1 : DataW.trod enc Tryz.prog W 0 (fun _ => true) true n 108 ((cs.drop 5).take (Tryz.prog.cellsOf 108)) = xs[1]? := hx 1 _ rfl
 rw [List.getElem?_eq_getElem (by omega), show Tryz.prog.cellsOf 108 = 1 by kernel_rfl] at q1
 obtain ⟨B1, f1, c1, g1, r1, u1, v1⟩ := row_is (msgV (fun _ => True)) 1 (by decide) Tryz.underlying108 (by kernel_rfl) (fun _ _ _ => msg_cells) q1 (hsz.field Tryz.underlying110 (i := 1) rfl (by rw [List.getElem?_map, List.getElem?_eq_getElem (by omega)]; rfl))
 have s1 : f1.length ≤ 140737488351232 := row_len Tryz.underlying108 (Nat.le_of_ble_eq_true (by kernel_rfl)) q1 (hsz.field Tryz.underlying110 (i := 1) rfl (by rw [List.getElem?_map, List.getElem?_eq_getElem (by omega)]; rfl)) g1
 have e5 := one_of_take g1
 obtain ⟨ys, n2, _, _, hyl, hyl2, hy⟩ := DataW.trod_struct Tryz.underlying107 q0
 have hyl' : ys.length = 5 := hyl2
 have p0 : DataW.trod enc Tryz.prog W 0 (fun _ => true) true n2 3 ((((cs.drop 0).take 5).drop 0).take (Tryz.prog.cellsOf 3)) = ys[0]? := hy 0 _ rfl
 rw [List.getElem?_eq_getElem (by omega), show Tryz.prog.cellsOf 3 = 1 by kernel_rfl] at p0
 obtain ⟨z0, k0, _, b0'⟩ := DataW.trod_int Tryz.underlying3 p0
 have b0 := _root_.Go.bounds_i64 b0'
 have e0 := one_of_take k0
 rw [List.getElem?_take_of_lt (by omega), List.getElem?_drop] at e0
 have p1 : DataW.trod enc Tryz.prog W 0 (fun _ => true) true n2 3 ((((cs.drop 0).take 5).drop 1).take (Tryz.prog.cellsOf 3)) = ys[1]? := hy 1 _ rfl
 rw [List.getElem?_eq_getElem (by omega), show Tryz.prog.cellsOf 3 = 1 by kernel_rfl] at p1
 obtain ⟨z1, k1, _, b1'⟩ := DataW.trod_int Tryz.underlying3 p1
 have b1 := _root_.Go.bounds_i64 b1'
 have e1 := one_of_take k1
 rw [List.getElem?_take_of_lt (by omega), List.getElem?_drop] at e1
 have p2 : DataW.trod enc Tryz.prog W 0 (fun _ => true) true n2 3 ((((cs.drop 0).take 5).drop 2).take (Tryz.prog.cellsOf 3)) = ys[2]? := hy 2 _ rfl
 rw [List.getElem?_eq_getElem (by omega), show Tryz.prog.cellsOf 3 = 1 by kernel_rfl] at p2
 obtain ⟨z2, k2, _, b2'⟩ := DataW.trod_int Tryz.underlying3 p2
 have b2 := _root_.Go.bounds_i64 b2'
 have e2 := one_of_take k2
 rw [List.getElem?_take_of_lt (by omega), List.getElem?_drop] at e2
 have p3 : DataW.trod enc Tryz.prog W 0 (fun _ => true) true n2 3 ((((cs.drop 0).take 5).drop 3).take (Tryz.prog.cellsOf 3)) = ys[3]? := hy 3 _ rfl
 rw [List.getElem?_eq_getElem (by omega), show Tryz.prog.cellsOf 3 = 1 by kernel_rfl] at p3
 obtain ⟨z3, k3, _, b3'⟩ := DataW.trod_int Tryz.underlying3 p3
 have b3 := _root_.Go.bounds_i64 b3'
 have e3 := one_of_take k3
 rw [List.getElem?_take_of_lt (by omega), List.getElem?_drop] at e3
 have p4 : DataW.trod enc Tryz.prog W 0 (fun _ => true) true n2 3 ((((cs.drop 0).take 5).drop 4).take (Tryz.prog.cellsOf 3)) = ys[4]? := hy 4 _ rfl
 rw [List.getElem?_eq_getElem (by omega), show Tryz.prog.cellsOf 3 = 1 by kernel_rfl] at p4
 obtain ⟨z4, k4, _, b4'⟩ := DataW.trod_int Tryz.underlying3 p4
 have b4 := _root_.Go.bounds_i64 b4'
 have e4 := one_of_take k4
 rw [List.getElem?_take_of_lt (by omega), List.getElem?_drop] at e4
 match cs, hl', e0, e1, e2, e3, e4, e5 with
 | [w0, w1, w2, w3, w4, w5], _, e0, e1, e2, e3, e4, e5 =>
  simp only [List.getElem?_cons_zero, List.getElem?_cons_succ, Option.some.injEq, Nat.reduceAdd] at e0 e1 e2 e3 e4 e5
  subst e0 e1 e2 e3 e4 e5
  exact ⟨⟨⟨z0, z1, z2, z3, z4⟩, f1⟩, rfl, _, rfl, ⟨B1, c1, rfl, u1, v1, r1⟩, ⟨b0, b1, b2, b3, b4⟩, s1⟩
theorem part_cells {fuel : Nat} {cs : List Value} {x : DataW H × List MemPlace} (h : DataW.trod enc Tryz.prog W 0 (fun _ => true) true fuel 104 cs = some x) (hsz : SizedD Tryz.prog 104 x.1) : ∃ a : Pt, cs.length = 14 ∧ (ptV (fun _ => True)) W a cs := by
 obtain ⟨xs, m, _, hxe, hl, hxl, hx⟩ := DataW.trod_struct Tryz.underlying104 h
 rw [hxe] at hsz
 have c14 : Tryz.prog.cellsOf 104 = 14 := by kernel_rfl
 have hl' : cs.length = 14 := by rw [hl, c14]
 have hxl' : xs.length = 7 := hxl
 have q0 : DataW.trod enc Tryz.prog W 0 (fun _ => true) true m 3 ((cs.drop 0).take (Tryz.prog.cellsOf 3)) = xs[0]? := hx 0 _ rfl
 have q1 : DataW.trod enc Tryz.prog W 0 (fun _ => true) true m 3 ((cs.drop 1).take (Tryz.prog.cellsOf 3)) = xs[1]? := hx 1 _ rfl
 have q2 : DataW.trod enc Tryz.prog W 0 (fun _ => true) true m 4 ((cs.drop 2).take (Tryz.prog.cellsOf 4)) = xs[2]? := hx 2 _ rfl
 have q3 : DataW.trod enc Tryz.prog W 0 (fun _ => true) true m 102 ((cs.drop 3).take (Tryz.prog.cellsOf 102)) = xs[3]? := hx 3 _ rfl
 have q4 : DataW.trod enc Tryz.prog W 0 (fun _ => true) true m 76 ((cs.drop 11).take (Tryz.prog.cellsOf 76)) = xs[4]? := hx 4 _ rfl
 have q5 : DataW.trod enc Tryz.prog W 0 (fun _ => true) true m 5 ((cs.drop 12).take (Tryz.prog.cellsOf 5)) = xs[5]? := hx 5 _ rfl
 have q6 : DataW.trod enc Tryz.prog W 0 (fun _ => true) true m 29 ((cs.drop 13).take (Tryz.prog.cellsOf 29)) = xs[6]? := hx 6 _ rfl
 rw [List.getElem?_eq_getElem (by omega)] at q0 q1 q2 q3 q4 q5 q6
 have k1 : Tryz.prog.cellsOf 3 = 1 := by kernel_rfl
 have k2 : Tryz.prog.cellsOf 4 = 1 := by kernel_rfl
 have k3 : Tryz.prog.cellsOf 102 = 8 := by kernel_rfl
 have k4 : Tryz.prog.cellsOf 76 = 1 := by kernel_rfl
 have k5 : Tryz.prog.cellsOf 5 = 1 := by kernel_rfl
 have k6 : Tryz.prog.cellsOf 29 = 1 := by kernel_rfl
 rw [k1] at q0 q1
 rw [k2] at q2
 rw [k3] at q3
 rw [k4] at q4
 rw [k5] at q5
 rw [k6] at q6
 obtain ⟨i0, h0, _, w0⟩ := DataW.trod_int Tryz.underlying3 q0
 obtain ⟨i1, h1, _, w1⟩ := DataW.trod_int Tryz.underlying3 q1
 obtain ⟨b2, h2, _⟩ := DataW.trod_bool Tryz.underlying4 q2
 have hreg := regs_cells q3
 obtain ⟨i4, h4, _, w4⟩ := DataW.trod_int Tryz.underlying76 q4
 obtain ⟨i5, h5, _, w5⟩ := DataW.trod_int Tryz.underlying5 q5
 obtain ⟨B, l, c, h6, hrd, hlc, hcm, hss⟩ := bytes_is Tryz.underlying29 Tryz.underlying5 (by kernel_rfl) q6
 have hss := hss (by kernel_rfl) (hsz.field Tryz.underlying104 (i := 6) rfl (by rw [List.getElem?_map, List.getElem?_eq_getElem (by omega)]; rfl))
 have bi0 := _root_.Go.bounds_i64 w0
 have bi1 := _root_.Go.bounds_i64 w1
 obtain ⟨pc, rfl, bpc⟩ := u32_nat w4
 obtain ⟨st, rfl, bst⟩ := u8_nat w5
 have g0 := one_of_take h0
 have g1 := one_of_take h1
 have g2 := one_of_take h2
 have g4 := one_of_take h4
 have g5 := one_of_take h5
 have g6 := one_of_take h6
 have hr : ∀ i, i < 8 → ∃ b : Nat, cs[3 + i]? = some (.int .u32 b) ∧ b < 4294967296 := by
  intro i hi
  obtain ⟨b, hb, hb2⟩ := hreg i hi
  rw [List.getElem?_take_of_lt hi, List.getElem?_drop] at hb
  exact ⟨b, hb, hb2⟩
 obtain ⟨r0, e0, f0⟩ := hr 0 (by omega)
 obtain ⟨r1, e1, f1⟩ := hr 1 (by omega)
 obtain ⟨r2, e2, f2⟩ := hr 2 (by omega)
 obtain ⟨r3, e3, f3⟩ := hr 3 (by omega)
 obtain ⟨r4, e4, f4⟩ := hr 4 (by omega)
 obtain ⟨r5, e5, f5⟩ := hr 5 (by omega)
 obtain ⟨r6, e6, f6⟩ := hr 6 (by omega)
 obtain ⟨r7, e7, f7⟩ := hr 7 (by omega)
 refine ⟨⟨i0, i1, b2, [r0, r1, r2, r3, r4, r5, r6, r7], pc, st, l⟩, hl', .slice B l.length c, ?_, ⟨B, c, rfl, hlc, hcm, hrd, fun _ _ _ _ => trivial⟩, ⟨rfl, ?_, bpc, bst, bi0, bi1⟩, Nat.le_trans hlc hss⟩
 ·clear q0 q1 q2 q3 q4 q5 q6 hx hreg hr h0 h1 h2 h4 h5 h6 h
  match cs, hl', g0, g1, g2, g4, g5, g6, e0, e1, e2, e3, e4, e5, e6, e7 with
  | [v0, v1, v2, v3, v4, v5, v6, v7, v8, v9, v10, v11, v12, v13], _, g0, g1, g2, g4, g5, g6, e0, e1, e2, e3, e4, e5, e6, e7 =>
   simp only [List.getElem?_cons_zero, List.getElem?_cons_succ, Option.some.injEq, Nat.reduceAdd] at g0 g1 g2 g4 g5 g6 e0 e1 e2 e3 e4 e5 e6 e7
   subst g0 g1 g2 g4 g5 g6 e0 e1 e2 e3 e4 e5 e6 e7
   rfl
 ·intro i
  show [r0, r1, r2, r3, r4, r5, r6, r7].getD i 0 < 4294967296
  match i with
  | 0 => exact f0
  | 1 => exact f1
  | 2 => exact f2
  | 3 => exact f3
  | 4 => exact f4
  | 5 => exact f5
  | 6 => exact f6
  | 7 => exact f7
  | n + 8 => simp
theorem sta_cells {fuel : Nat} {cs : List Value} {x : DataW H × List MemPlace} (h : DataW.trod enc Tryz.prog W 0 (fun _ => true) true fuel 25 cs = some x) (hsz : SizedD Tryz.prog 25 x.1) :
  ∃ (s : Sta) (vb vd : Value), cs = [.int .i64 s.frames, vb, vd] ∧ I64 s.frames ∧ StaV (fun b => b < W.heap.size) W s vb vd := by
 obtain ⟨xs, n, _, hxe, hl, hxl, hx⟩ := DataW.trod_struct Tryz.underlying25 h
 rw [hxe] at hsz
 have hl' : cs.length = 3 := hl.trans (by kernel_rfl)
 have hxl' : xs.length = 3 := hxl
 have q0 : DataW.trod enc Tryz.prog W 0 (fun _ => true) true n 3 ((cs.drop 0).take (Tryz.prog.cellsOf 3)) = xs[0]? := hx 0 _ rfl
 rw [List.getElem?_eq_getElem (by omega), show Tryz.prog.cellsOf 3 = 1 by kernel_rfl] at q0
 obtain ⟨z0, k0, _, b0'⟩ := DataW.trod_int Tryz.underlying3 q0
 have b0 := _root_.Go.bounds_i64 b0'
 have e0 := one_of_take k0
 have q1 : DataW.trod enc Tryz.prog W 0 (fun _ => true) true n 22 ((cs.drop 1).take (Tryz.prog.cellsOf 22)) = xs[1]? := hx 1 _ rfl
 rw [List.getElem?_eq_getElem (by omega), show Tryz.prog.cellsOf 22 = 1 by kernel_rfl] at q1
 obtain ⟨A1, l1, c1, g1, r1, u1, v1⟩ := row_is (ptV (fun _ => True)) 14 (by decide) Tryz.underlying22 (by kernel_rfl) (fun _ _ _ => part_cells) q1 (hsz.field Tryz.underlying25 (i := 1) rfl (by rw [List.getElem?_map, List.getElem?_eq_getElem (by omega)]; rfl))
 have e1 := one_of_take g1
 have q2 : DataW.trod enc Tryz.prog W 0 (fun _ => true) true n 23 ((cs.drop 2).take (Tryz.prog.cellsOf 23)) = xs[2]? := hx 2 _ rfl
 rw [List.getElem?_eq_getElem (by omega), show Tryz.prog.cellsOf 23 = 1 by kernel_rfl] at q2
 obtain ⟨A2, l2, c2, g2, r2, u2, v2⟩ := row_is (quV (fun _ => True)) 6 (by decide) Tryz.underlying23 (by kernel_rfl) (fun _ _ _ => qu_cells) q2 (hsz.field Tryz.underlying25 (i := 2) rfl (by rw [List.getElem?_map, List.getElem?_eq_getElem (by omega)]; rfl))
 have e2 := one_of_take g2
 match cs, hl', e0, e1, e2 with
 | [a, b, c], _, e0, e1, e2 =>
  simp only [List.getElem?_cons_zero, List.getElem?_cons_succ, Option.some.injEq] at e0 e1 e2
  subst e0 e1 e2
  have hp : SlV (ptV fun _ => True) (fun _ => True) 14 W l1 (.slice A1 l1.length c1) := ⟨A1, c1, rfl, u1, v1, r1⟩
  have hq : SlV (quV fun _ => True) (fun _ => True) 6 W l2 (.slice A2 l2.length c2) := ⟨A2, c2, rfl, u2, v2, r2⟩
  refine ⟨⟨z0, l1, l2⟩, _, _, rfl, b0, ?_, ?_⟩
  ·exact (hp.bound (by omega) (fun _ _ _ h => h.bound)).mono (fun b h => h.2) (fun a vs _ h => h.mono (fun b h => h.2))
  ·exact (hq.bound (by omega) (fun _ _ _ h => h.bound)).mono (fun b h => h.2) (fun a vs _ h => h.mono (fun b h => h.2))
end
end
section
open Go.RowKit
end
section
open Go.RowKit Go.Shelf
attribute [local go_sem] Oper.semAt_some
end
section
open Go.RowKit
end
section
open Go.RowKit
end
section
open Go.RowKit
end
section
open Go.RowKit Go.Shelf
attribute [local go_sem] Oper.semAt_some
end
section
open Go.RowKit Go.Shelf
attribute [local go_sem] Oper.semAt_some
end
section
open Go.ChangeShapes Go.WideShapes Go.ChangeAt Go.RowKit
section
variable {H : Type} {enc : TypeId × Value → H} {W : World}
end
end
section
open Go.ChangeShapes Go.WideShapes Go.ChangeAt Go.RowKit
section
variable {H : Type} {enc : TypeId × Value → H} {W : World}
theorem tag_cells {fuel : Nat} {cs : List Value} {x : DataW H × List MemPlace} (h : DataW.trod enc Tryz.prog W 0 (fun _ => true) true fuel 28 cs = some x) : ∃ hash : List UInt8, hash.length = 32 ∧ cs = hash.map bv := by
 obtain ⟨xs, m, _, _, hl, hxl, hx⟩ := DataW.trod_array Tryz.underlying28 h
 have c32 : Tryz.prog.cellsOf 28 = 32 := by kernel_rfl
 have c1 : Tryz.prog.cellsOf 5 = 1 := by kernel_rfl
 rw [c32] at hl
 obtain ⟨l, hll, hlp⟩ := list_of 32 (fun i (r : UInt8) => cs[i]? = some (bv r)) (fun i hi => by
   have hq := hx i hi
   rw [c1, Nat.mul_one, List.getElem?_eq_getElem (by omega)] at hq
   obtain ⟨k, hk, _, hw⟩ := DataW.trod_int Tryz.underlying5 hq
   obtain ⟨n, rfl, hn⟩ := u8_nat hw
   refine ⟨UInt8.ofNat n, ?_⟩
   rw [one_of_take hk]
   unfold bv
   rw [UInt8.toNat_ofNat', Nat.mod_eq_of_lt hn])
 refine ⟨l, hll, ?_⟩
 apply List.ext_getElem?
 intro i
 by_cases hi : i < 32
 ·obtain ⟨r, hr⟩ : ∃ r, l[i]? = some r := ⟨_, List.getElem?_eq_getElem (by omega)⟩
  rw [hlp i r hr, List.getElem?_map, hr]
  rfl
 ·rw [List.getElem?_eq_none (by omega), List.getElem?_eq_none (by rw [List.length_map]; omega)]
theorem ac_cells {fuel : Nat} {cs : List Value} {x : DataW H × List MemPlace} (h : DataW.trod enc Tryz.prog W 0 (fun _ => true) true fuel 31 cs = some x) (hsz : SizedD Tryz.prog 31 x.1) : ∃ a : Ac, cs.length = 39 ∧ acV (fun b => b < W.heap.size) W a cs := by
 obtain ⟨xs, n, _, hxe, hl, hxl, hx⟩ := DataW.trod_struct Tryz.underlying31 h
 rw [hxe] at hsz
 have hl' : cs.length = 39 := hl.trans (by kernel_rfl)
 have hxl' : xs.length = 6 := hxl
 have q0 : DataW.trod enc Tryz.prog W 0 (fun _ => true) true n 3 ((cs.drop 0).take (Tryz.prog.cellsOf 3)) = xs[0]? := hx 0 _ rfl
 have q1 : DataW.trod enc Tryz.prog W 0 (fun _ => true) true n 3 ((cs.drop 1).take (Tryz.prog.cellsOf 3)) = xs[1]? := hx 1 _ rfl
 have q2 : DataW.trod enc Tryz.prog W 0 (fun _ => true) true n 3 ((cs.drop 2).take (Tryz.prog.cellsOf 3)) = xs[2]? := hx 2 _ rfl
 have q3 : DataW.trod enc Tryz.prog W 0 (fun _ => true) true n 28 ((cs.drop 3).take (Tryz.prog.cellsOf 28)) = xs[3]? := hx 3 _ rfl
 have q4 : DataW.trod enc Tryz.prog W 0 (fun _ => true) true n 25 ((cs.drop 35).take (Tryz.prog.cellsOf 25)) = xs[4]? := hx 4 _ rfl
 have q5 : DataW.trod enc Tryz.prog W 0 (fun _ => true) true n 29 ((cs.drop 38).take (Tryz.prog.cellsOf 29)) = xs[5]? := hx 5 _ rfl
 rw [List.getElem?_eq_getElem (by omega)] at q0 q1 q2 q3 q4 q5
 rw [show Tryz.prog.cellsOf 3 = 1 by kernel_rfl] at q0 q1 q2
 rw [show Tryz.prog.cellsOf 28 = 32 by kernel_rfl] at q3
 rw [show Tryz.prog.cellsOf 25 = 3 by kernel_rfl] at q4
 rw [show Tryz.prog.cellsOf 29 = 1 by kernel_rfl] at q5
 obtain ⟨z0, k0, _, b0⟩ := DataW.trod_int Tryz.underlying3 q0
 obtain ⟨z1, k1, _, b1⟩ := DataW.trod_int Tryz.underlying3 q1
 obtain ⟨z2, k2, _, b2⟩ := DataW.trod_int Tryz.underlying3 q2
 obtain ⟨hash, hh, k3⟩ := tag_cells q3
 obtain ⟨s, vb, vd, k4, _, hst⟩ := sta_cells q4 (hsz.field Tryz.underlying31 (i := 4) rfl (by rw [List.getElem?_map, List.getElem?_eq_getElem (by omega)]; rfl))
 obtain ⟨B, l, c, k5, hrd, hlc, hcm, hcs⟩ := bytes_is Tryz.underlying29 Tryz.underlying5 (by kernel_rfl) q5
 have hcs := hcs (by kernel_rfl) (hsz.field Tryz.underlying31 (i := 5) rfl (by rw [List.getElem?_map, List.getElem?_eq_getElem (by omega)]; rfl))
 refine ⟨⟨z0, z1, z2, hash, s, l⟩, hl', vb, vd, B, c, ?_, hh, ⟨_root_.Go.bounds_i64 b0, _root_.Go.bounds_i64 b1, _root_.Go.bounds_i64 b2⟩, hst, hrd, by show l.length ≤ 140737488351232; omega⟩
 have e0 := one_of_take k0
 have e1 := one_of_take k1
 have e2 := one_of_take k2
 have e38 : cs.drop 38 = [.slice B l.length c] := by rw [← k5, List.take_of_length_le (by simp; omega)]
 have e35 : cs.drop 35 = [.int .i64 s.frames, vb, vd] ++ [.slice B l.length c] := by
  rw [← k4, ← e38, ← List.drop_drop (i := 3) (j := 35), List.take_append_drop]
 have e3 : cs.drop 3 = hash.map bv ++ ([.int .i64 s.frames, vb, vd] ++ [.slice B l.length c]) := by
  rw [← k3, ← e35, ← List.drop_drop (i := 32) (j := 3), List.take_append_drop]
 match cs, hl', e0, e1, e2, e3 with
 | a0 :: a1 :: a2 :: t, _, e0, e1, e2, e3 =>
  simp only [List.getElem?_cons_zero, List.getElem?_cons_succ, Option.some.injEq] at e0 e1 e2
  subst e0 e1 e2
  simp only [List.drop_succ_cons, List.drop_zero] at e3
  subst e3
  rfl
theorem open_acs {r0 : Reach} {b0 : Nat} {v : Value} {d : DataW H} {ps : List MemPlace} (hval : Value.okWide Tryz.prog W r0 b0 32 v) (h : DataW.Trod enc Tryz.prog W 0 (fun _ => true) true 32 v d ps) (hsz : SizedD Tryz.prog 32 d) :
  ∃ (B : Option Addr) (l : List Ac) (c : Nat), v = .slice B l.length c ∧ RdL (acV (fun b => b < W.heap.size)) (fun _ => True) 39 W B l ∧ l.length ≤ c ∧ c ≤ maxLen := by
 obtain ⟨a, len, cap, rfl⟩ := okWide_slice Tryz.underlying32 hval
 obtain ⟨fuel, hf⟩ := h
 obtain ⟨A, l, c, h1, h2, h3, h4⟩ := row_is (acV (fun b => b < W.heap.size)) 39 (by decide) Tryz.underlying32 (by kernel_rfl) (fun _ _ _ => ac_cells) hf hsz
 simp only [Value.cells, List.cons.injEq, and_true] at h1
 exact ⟨A, l, c, h1, h2, h3, h4⟩
end
end
end Go.Proofs.YtkgnlobabknkcaaGreat
