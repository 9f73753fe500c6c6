/- Walk of citadellaw19.IsaLines. -/
import Derived.Test.YtpcmnphohneddaaDoorIsa12
import Derived.Maps.AppendAt
namespace Go.Proofs.YtpcmnphohneddaaDoor
open Go.RowKit
set_option linter.unusedVariables false

abbrev Q4 := Nat × Nat × Nat × Nat
def qb (f : Q4) : Nat → Nat
  | 0 => f.1
  | 1 => f.2.1
  | 2 => f.2.2.1
  | _ => f.2.2.2
def qI (f : Q4) : Ins := decI f.1 f.2.1 f.2.2.1 f.2.2.2
def qB (f : Q4) : List UInt8 := [UInt8.ofNat f.1, UInt8.ofNat f.2.1, UInt8.ofNat f.2.2.1, UInt8.ofNat f.2.2.2]
theorem qb_lt {f : Q4} (h : Four f) (j : Nat) : qb f j < 256 := by
  obtain ⟨h1, h2, h3, h4⟩ := h
  rcases j with _ | _ | _ | j
  · exact h1
  · exact h2
  · exact h3
  · exact h4
theorem qB_at (f : Q4) (j : Nat) (hj : j < 4) : (qB f)[j]? = some (UInt8.ofNat (qb f j)) := by
  have h' : j = 0 ∨ j = 1 ∨ j = 2 ∨ j = 3 := by omega
  rcases h' with rfl | rfl | rfl | rfl <;> rfl
/-- the lines, and their bytes -/
def lnOf (fs : List Q4) : List (List UInt8) := (fs.filter fun f => mayB (qI f)).map fun f => textL (qI f)
def wtOf (fs : List Q4) : List UInt8 := ((fs.filter fun f => mayB (qI f)).map qB).flatten
theorem lnOf_yes (fs : List Q4) (f : Q4) (h : mayB (qI f) = true) : lnOf (fs ++ [f]) = lnOf fs ++ [textL (qI f)] := by simp [lnOf, h]
theorem lnOf_no (fs : List Q4) (f : Q4) (h : mayB (qI f) = false) : lnOf (fs ++ [f]) = lnOf fs := by simp [lnOf, h]
theorem wtOf_yes (fs : List Q4) (f : Q4) (h : mayB (qI f) = true) : wtOf (fs ++ [f]) = wtOf fs ++ qB f := by simp [wtOf, h]
theorem wtOf_no (fs : List Q4) (f : Q4) (h : mayB (qI f) = false) : wtOf (fs ++ [f]) = wtOf fs := by simp [wtOf, h]
theorem lnOf_len (fs : List Q4) : (lnOf fs).length ≤ fs.length := by
  unfold lnOf
  rw [List.length_map]
  exact List.length_filter_le _ _
theorem wtOf_len (fs : List Q4) : (wtOf fs).length ≤ 4 * fs.length := by
  induction fs with
  | nil => simp [wtOf]
  | cons f r ih =>
    have e : wtOf (f :: r) = (if mayB (qI f) then qB f else []) ++ wtOf r := by
      unfold wtOf
      rw [List.filter_cons]
      split <;> simp [*]
    rw [e, List.length_append, List.length_cons]
    have : (if mayB (qI f) then qB f else []).length ≤ 4 := by split <;> simp [qB]
    omega
theorem lnOf_bd (fs : List Q4) : ∀ l ∈ lnOf fs, l.length < 1000000 := by
  intro l hl
  obtain ⟨f, _, rfl⟩ := List.mem_map.1 hl
  exact textL_len _
theorem encB_q {f : Q4} (h : Four f) : encB (qI f) = qB f := by
  have := enc_dec f.1 f.2.1 f.2.2.1 f.2.2.2 h.1 h.2.1 h.2.2.1 h.2.2.2
  unfold encB qB qI
  rw [this]
/-- the code of the lines is their bytes -/
theorem code_lines (fs : List Q4) (hf : ∀ f ∈ fs, Four f) : codeC (lnOf fs) = some (wtOf fs) := by
  rw [codeC_all]
  · congr 1
    unfold codeB lnOf wtOf
    rw [List.map_map]
    congr 1
    apply List.map_congr_left
    intro f hm
    obtain ⟨h1, h2⟩ := List.mem_filter.1 hm
    simp only [Function.comp]
    rw [parseC_text h2]
    exact encB_q (hf f h1)
  · intro l hl
    obtain ⟨f, hm, rfl⟩ := List.mem_map.1 hl
    rw [parseC_text (List.mem_filter.1 hm).2]
    rfl
theorem code_no (fs : List Q4) : codeC (lnOf fs ++ [[110, 111]]) = none := codeC_no _ [110, 111] (by simp) p_no

/-- the slice that begins at A holds the quadruples l -/
def RdQ (w : World) (A : Option Addr) (l : List Q4) : Prop :=
  ∀ (i : Nat) (f : Q4), l[i]? = some f → ∃ b o, A = some ⟨b, o, none⟩ ∧ ∀ j, j < 4 → w.cell? ⟨b, o + i * 4 + j, none⟩ = some (.int .u8 (qb f j))
theorem RdQ.non {w w' : World} {A : Option Addr} {l : List Q4} (h : RdQ w A l) (hg : Chg Non w w') : RdQ w' A l := fun i f hf => by
  obtain ⟨b, o, e, hc⟩ := h i f hf
  exact ⟨b, o, e, fun j hj => hg.cell_some (hc j hj) (fun e => e)⟩

theorem own_apart {B1 B2 : Nat} {w : World} {v1 v2 : Value} {l1 : List (List UInt8)} {l2 : List UInt8} (h1 : OwnS B1 w v1 l1) (h2 : OwnR B2 w v2 l2) : ∀ g, v1.ownBlock = some g → ¬ v2.ownBlock = some g := by
  intro g e1 e2
  rcases h1.2 with ⟨rfl, _⟩ | ⟨g1, c1, cur1, rfl, _, hb1, _⟩
  · simp [Value.ownBlock] at e1
  · rcases h2.2 with ⟨rfl, _⟩ | ⟨g2, c2, cur2, rfl, _, hb2, _⟩
    · simp [Value.ownBlock] at e2
    · obtain rfl : g1 = g := by simpa [Value.ownBlock] using e1
      obtain rfl : g2 = g1 := by simpa [Value.ownBlock] using e2
      rw [hb1] at hb2
      injection hb2 with hb2
      injection hb2 with _ ht _
      exact absurd ht (by decide)

theorem byte_new (w : World) (bj : Nat) (h : bj < 256) : ∀ j u, [UInt8.ofNat bj][j]? = some u → (w.alloc (.cells #[.int .u8 bj] 5)).cell? ⟨w.heap.size, 0 + j, none⟩ = some (bv u) := by
  intro j u hu
  rcases j with _ | j
  · simp at hu
    subst hu
    rw [cell_of_one (heap_alloc_new _ _)]
    simp only [bv, UInt8.toNat_ofNat']
    congr 2
    omega
  · simp at hu
/-- one string put behind, in a plain region -/
theorem wpList_snocS {ops : Array Oper} {rest : List Oper} {o : Oper} {a : Act} {w : World} {Q : Exit → Act → World → Prop} (hgd : o.guard = none) (s x : Operand)
    (ho : o.op = .call { callee := .builtin .append, args := #[s, x], argTypes := #[41, 41] })
    (B : Nat) (v : Value) (l : List (List UInt8)) (hs : a.eval s = v) (hown : OwnS B w v l) (b : Nat) (y : List UInt8) (hx : a.eval x = .slice (some ⟨b, 0, none⟩) 1 1) (hb : w.cell? ⟨b, 0, none⟩ = some (mkStr y))
    (hl : l.length ≤ 1000000) (hB : B ≤ w.heap.size)
    (h : ∀ v2 w2, OwnS B w2 v2 (l ++ [y]) → Chg (fun k => v.ownBlock = some k) w w2 → (v2.ownBlock = v.ownBlock ∨ v2.ownBlock = some w.heap.size) → wpList Tryd.prog ops Q rest (a.put o.dst v2) w2) : wpList Tryd.prog ops Q (o :: rest) a w :=
  wpList_plain hgd fun K hK => wp_snocS s x ho B v l hs hown b y hx hb hl hB (fun v2 w2 h1 h2 h3 => hK _ _ (h v2 w2 h1 h2 h3))

set_option maxRecDepth 100000 in
/-- strings put behind a row of one's own, none too -/
theorem run_appS (w : World) (ty : TypeId) (B : Nat) (v : Value) (l : List (List UInt8)) (hown : OwnS B w v l) (A : Option Addr) (c : Nat) (y : List (List UInt8)) (hr : RdS w A y) (hl : l.length ≤ 1000000) (hy : y.length ≤ 1000000) (hB : B ≤ w.heap.size) :
    ∃ v' w', (Builtin.append_ #[41, 41] ty #[v, .slice A y.length c]).run Tryd.prog w = .ok v' w' ∧ OwnS B w' v' (l ++ y) ∧ w.grownBy w' v.ownBlock ∧ (v'.ownBlock = v.ownBlock ∨ v'.ownBlock = some w.heap.size) := by
  obtain ⟨i0, hi0, hz0, hs0, hb0⟩ := info_parts info_str
  cases A with
  | none =>
    have hy0 : y = [] := by
      cases y with
      | nil => rfl
      | cons x r => obtain ⟨b, o, e, _⟩ := hr 0 x rfl; cases e
    subst hy0
    refine ⟨v, w, ?_, by simpa using hown, World.grownBy.refl w _, .inl rfl⟩
    rcases hown.2 with ⟨rfl, _⟩ | ⟨g, cap, cur, rfl, _, _, hnc, _⟩
    · simp [Builtin.append_, run_underlying Tryd.underlying41, sizeOf, typeInfo, hi0, Builtin.lenOf, Builtin.firstCells]
    · simp [Builtin.append_, run_underlying Tryd.underlying41, sizeOf, typeInfo, hi0, Builtin.lenOf, Builtin.firstCells, hnc, storeCells]
  | some ad =>
    obtain ⟨v', w', h1, h2, h3, _, h5⟩ := run_append_own_at (P := Tryd.prog) w B 41 ty 9 i0 _ 1 16 Tryd.underlying41 hi0 hz0 hs0 hb0 rfl (by omega) v l.length (l.map mkStr) hown ad y.length c (y.map mkStr) (by simp) (by
      intro j u hu
      rw [List.getElem?_map] at hu
      obtain ⟨z, hz, rfl⟩ := Option.map_eq_some_iff.1 hu
      obtain ⟨b, o, e, hc⟩ := hr j z hz
      injection e with e
      subst e
      rw [addr_plain]
      exact hc) (by
      intro u hu
      obtain ⟨z, _, rfl⟩ := List.mem_map.1 hu
      rfl) (by unfold maxLen; omega) (by omega) hB
    exact ⟨v', w', h1, by unfold OwnS; rw [List.length_append, List.map_append]; exact h2, h3, h5⟩
theorem wpList_appS {ops : Array Oper} {rest : List Oper} {o : Oper} {a : Act} {w : World} {Q : Exit → Act → World → Prop} (hgd : o.guard = none) (s x : Operand)
    (ho : o.op = .call { callee := .builtin .append, args := #[s, x], argTypes := #[41, 41] })
    (B : Nat) (v : Value) (l : List (List UInt8)) (hs : a.eval s = v) (hown : OwnS B w v l) (A : Option Addr) (c : Nat) (y : List (List UInt8)) (hx : a.eval x = .slice A y.length c) (hr : RdS w A y)
    (hl : l.length ≤ 1000000) (hy : y.length ≤ 1000000) (hB : B ≤ w.heap.size)
    (h : ∀ v2 w2, OwnS B w2 v2 (l ++ y) → Chg (fun k => v.ownBlock = some k) w w2 → (v2.ownBlock = v.ownBlock ∨ v2.ownBlock = some w.heap.size) → wpList Tryd.prog ops Q rest (a.put o.dst v2) w2) : wpList Tryd.prog ops Q (o :: rest) a w := by
  obtain ⟨v', w', h1, h2, h3, h4⟩ := run_appS w o.type B v l hown A c y hr hl hy hB
  refine wpList_plain hgd fun K hK => ?_
  unfold Oper.wp execOp
  simp only [ho, resolve, invoke, builtin, Sem.run_bind, Sem.run_pure, Result.andThen_ok, List.map_toArray, List.map_cons, List.map_nil, hs, hx, h1]
  exact hK _ _ (h v' w' h2 ((Chg.refl _ w).grown h3 fun g' hg' => .inl hg') h4)
theorem own_empty (w : World) : OwnS w.heap.size (w.alloc (.cells #[] 9)) (.slice (some ⟨w.heap.size, 0, none⟩) 0 0) [] :=
  ⟨rfl, .inr ⟨w.heap.size, 0, #[], rfl, Nat.le_refl _, heap_alloc_new _ _, Nat.le_refl _, by simp, rfl, rfl⟩⟩
structure Hole (p : Prop) : Prop where
  out : p
theorem Lines_stop {p : Prop} (h : Hole p) : p := h.out
set_option maxRecDepth 100000 in
set_option maxHeartbeats 4000000 in
theorem lines_ok (A : Option Addr) (c : Nat) (fs : List Q4) (w : World) (hE : Env w) (hr : RdQ w A fs) (hf : ∀ f ∈ fs, Four f) (hl : fs.length ≤ 40) :
    Calls Tryd.prog 8 #[.slice A fs.length c] w fun e w' => e = .returned (.bool true) ∧ Chg Non w w' := by
  have HE := Lib.hid hE
  have HR := Lib.hid hr
  have HF := Lib.hid hf
  have hlen : decide ((fs.length : Int) > 40) = false := by simp; omega
  clear hE hr hf
  go_enter Tryd.func8, Tryd.ntmps8
  go_wp2_with fail
  go_loopw [3, 4, 5] (fun v u i wr => ∃ k : Nat, k ≤ fs.length ∧ i = .int .i64 k ∧ Chg Non w wr ∧ OwnS w.heap.size wr v (lnOf (fs.take k)) ∧ OwnR w.heap.size wr u (wtOf (fs.take k))) (fun _ _ i _ => fs.length - (intOf i).toNat)
  case atStart => exact ⟨0, Nat.zero_le _, rfl, Chg.refl _ _, World.ownsRow_nil _ _ _ _, OwnR.nil _ _⟩
  case round =>
    obtain ⟨k, hk, rfl, hg, ho1, ho2⟩ := hrel
    have HG := Lib.hid hg
    have HO1 := Lib.hid ho1
    have HO2 := Lib.hid ho2
    clear hg ho1 ho2
    by_cases hlt : k < fs.length
    · obtain ⟨f, hfk⟩ : ∃ f, fs[k]? = some f := ⟨_, List.getElem?_eq_getElem hlt⟩
      have HK := Lib.hid hfk
      have h4 := HF.out f (List.mem_of_getElem? hfk)
      obtain ⟨b, o, rfl, hc⟩ := HR.out k f hfk
      have HC := Lib.hid hc
      have H4 := Lib.hid h4
      have c0 : wr.cell? ⟨b, o + k * 4, none⟩ = some (.int .u8 f.1) := HG.out.cell_some (hc 0 (by omega)) (fun e => e)
      have c1 : wr.cell? ⟨b, o + k * 4 + 1, none⟩ = some (.int .u8 f.2.1) := HG.out.cell_some (hc 1 (by omega)) (fun e => e)
      have c2 : wr.cell? ⟨b, o + k * 4 + 2, none⟩ = some (.int .u8 f.2.2.1) := HG.out.cell_some (hc 2 (by omega)) (fun e => e)
      have c3 : wr.cell? ⟨b, o + k * 4 + 3, none⟩ = some (.int .u8 f.2.2.2) := HG.out.cell_some (hc 3 (by omega)) (fun e => e)
      clear hc hfk h4
      cases hm : mayB (qI f) with
      | false =>
        have HM := Lib.hid hm
        clear hm
        go_wp2_with fail
        refine (Dec_n f.1 f.2.1 f.2.2.1 f.2.2.2 _ H4.out HM.out).mono ?_
        rintro e w1 ⟨rfl, hg1⟩
        have HG1 := Lib.hid hg1
        clear hg1
        go_wp2_with fail
        go_roundw
        case rel =>
          refine ⟨k + 1, by omega, by go_num, (HG.out.then_non HG1.out).alloc _, ?_, ?_⟩
          · rw [List.take_add_one, HK.out, Option.toList_some, lnOf_no _ _ HM.out]
            exact (HO1.out.non HG1.out).non ((Chg.refl Non _).alloc _)
          · rw [List.take_add_one, HK.out, Option.toList_some, wtOf_no _ _ HM.out]
            exact (HO2.out.non HG1.out).non ((Chg.refl Non _).alloc _)
        case measure => simp [intOf]; omega
      | true =>
        have HM := Lib.hid hm
        clear hm
        obtain ⟨⟨op, a, b2, c2, n⟩, hx⟩ : ∃ x, qI f = x := ⟨_, rfl⟩
        rw [hx] at HM
        have HX := Lib.hid hx
        obtain ⟨tx, htx⟩ : ∃ t, textL ⟨op, a, b2, c2, n⟩ = t := ⟨_, rfl⟩
        have HT := Lib.hid htx
        clear hx htx
        have hl1 : (lnOf (fs.take k)).length ≤ 1000000 := by have := lnOf_len (fs.take k); simp at this; omega
        go_wp2_with fail
        refine (Dec_v f.1 f.2.1 f.2.2.1 f.2.2.2 op a b2 c2 n _ H4.out HX.out HM.out).mono ?_
        rintro e w1 ⟨rfl, hg1⟩
        have HG1 := Lib.hid hg1
        clear hg1
        go_wp2_with fail
        refine (Text_v op a b2 c2 n tx _ (HE.out.non ((HG.out.then_non HG1.out).alloc _)) HT.out).mono ?_
        rintro e w2 ⟨rfl, hg2⟩
        have HG2 : Hid (Chg Non wr w2) := Lib.hid ((HG1.out.alloc _).then_non hg2)
        clear hg2
        go_wp2_with (refine sel (some 37) (.call _) ?_; refine Lines_stop ?_)
        refine Hole.mk ?_
        refine wpList_snocS rfl (.tmp 33) (.tmp 36) rfl w.heap.size u3 (lnOf (fs.take k)) rfl (HO1.out.non (HG2.out.alloc _)) w2.heap.size tx rfl (cell_of_one (heap_alloc_new _ _)) (by omega) (by have h1 := HG.out.size; have h2 := HG2.out.size; simp; omega) ?_
        intro v2 w3 ho3 hg3 hat
        have HO3 := Lib.hid ho3
        have HG3 : Hid (Chg Non w w3) := Lib.hid (((HG.out.then_non HG2.out).alloc _).then_new hg3 (fun x hx => HO1.out.ge hx))
        have HW3 : Hid (OwnR w.heap.size w3 u4 (wtOf (fs.take k))) := Lib.hid ((HO2.out.non (HG2.out.alloc _)).keep hg3 (fun g hg e => own_apart HO1.out HO2.out g e hg))
        clear ho3 hg3 hat
        go_wp2_with fail
        go_loopw [4, 8] (fun u i wi => ∃ j : Nat, j ≤ 4 ∧ i = .int .i64 j ∧ Chg Non w wi ∧ OwnS w.heap.size wi v2 (lnOf (fs.take k) ++ [tx]) ∧ OwnR w.heap.size wi u (wtOf (fs.take k) ++ (qB f).take j)) (fun _ i _ => 4 - (intOf i).toNat)
        case atStart => exact ⟨0, Nat.zero_le _, rfl, HG3.out, HO3.out, by simpa using HW3.out⟩
        case round =>
          obtain ⟨j, hj, rfl, hgj, hoj1, hoj2⟩ := hrel
          have HGj := Lib.hid hgj
          have HOj1 := Lib.hid hoj1
          have HOj2 := Lib.hid hoj2
          clear hgj hoj1 hoj2
          by_cases hlt4 : j < 4
          · have hcj := HGj.out.cell_some (HC.out j hlt4) (fun e => e)
            obtain ⟨bj, hbj⟩ : ∃ bj, qb f j = bj := ⟨_, rfl⟩
            have hbl := qb_lt H4.out j
            have HBj := Lib.hid hbj
            rw [hbj] at hcj hbl
            clear hbj
            have hwl : (wtOf (fs.take k) ++ (qB f).take j).length ≤ 1000000 := by
              have h1 := wtOf_len (fs.take k)
              have h2 : ((qB f).take j).length ≤ 4 := by rw [List.length_take]; omega
              rw [List.length_take] at h1
              rw [List.length_append]
              omega
            go_wp2_with (refine sel (some 50) (.call _) ?_; refine Lines_stop ?_)
            refine Hole.mk ?_
            refine wpList_appR rfl (.tmp 42) (.tmp 49) rfl w.heap.size u4 (wtOf (fs.take k) ++ (qB f).take j) rfl (HOj2.out.non ((Chg.refl Non _).alloc _)) wr.heap.size 0 1 [UInt8.ofNat bj] rfl (byte_new _ _ hbl) (by simp) hwl (by simp) (by have h1 := HGj.out.size; simp; omega) ?_
            intro v5 w5 ho5 hg5 hat5
            have HO5 := Lib.hid ho5
            have HG5 : Hid (Chg Non w w5) := Lib.hid ((HGj.out.alloc _).then_new hg5 (fun x hx => HOj2.out.ge hx))
            have HL5 : Hid (OwnS w.heap.size w5 v2 (lnOf (fs.take k) ++ [tx])) := Lib.hid ((HOj1.out.non ((Chg.refl Non _).alloc _)).keep hg5 (fun g hg => own_apart HOj1.out HOj2.out g hg))
            clear ho5 hg5 hat5
            go_wp2_with fail
            go_roundw
            case rel =>
              refine ⟨j + 1, by omega, by go_num, HG5.out, HL5.out, ?_⟩
              rw [List.take_add_one, qB_at f j hlt4, HBj.out, Option.toList_some, ← List.append_assoc]
              exact HO5.out
            case measure => simp [intOf]; omega
          · have hj4 : j = 4 := by omega
            subst hj4
            go_wp2_with fail
            go_roundw
            case rel =>
              refine ⟨k + 1, by omega, by go_num, HGj.out, ?_, ?_⟩
              · rw [List.take_add_one, HK.out, Option.toList_some, lnOf_yes _ _ (by rw [HX.out]; exact HM.out), HX.out, HT.out]
                exact HOj1.out
              · rw [List.take_add_one, HK.out, Option.toList_some, wtOf_yes _ _ (by rw [HX.out]; exact HM.out)]
                exact HOj2.out
            case measure => simp [intOf]; omega
    · have hkl : k = fs.length := by omega
      have ht : fs.take k = fs := List.take_of_length_le (by omega)
      rw [ht] at HO1 HO2
      clear ht
      obtain ⟨A1, c1, rfl, h11, h12, h13⟩ := HO1.out.rd
      have HR1 := Lib.hid h13
      have hl1 : (lnOf fs).length ≤ 1000 := by have := lnOf_len fs; omega
      clear h13
      go_wp2_with fail
      refine (Code_ok A1 c1 (lnOf fs) wr (HE.out.non HG.out) HR1.out hl1 (lnOf_bd fs)).mono ?_
      rintro e w1 ⟨hg1, hret⟩
      rw [code_lines fs HF.out] at hret
      obtain ⟨A2, c2, rfl, hrd2, hc2, hm2⟩ := hret
      have HG1 := Lib.hid hg1
      have HRD2 := Lib.hid hrd2
      clear hg1 hrd2
      go_wp2_with (refine sel (some 59) (.call _) ?_; refine Lines_stop ?_)
      refine Hole.mk ?_
      refine wpList_appS rfl (.tmp 57) (.tmp 58) rfl w1.heap.size (.slice (some ⟨w1.heap.size, 0, none⟩) 0 0) [] rfl (own_empty w1) A1 c1 (lnOf fs) rfl ((HR1.out.non HG1.out).non ((Chg.refl Non _).alloc _)) (by simp) (by omega) (by simp) ?_
      intro v3 w3 ho3 hg3 hat3
      have HO3 := Lib.hid ho3
      have HG3 : Hid (Chg Non w1 w3) := Lib.hid (((Chg.refl Non w1).alloc _).then_new hg3 (fun x hx => (own_empty w1).ge hx))
      clear ho3 hg3 hat3
      rw [List.nil_append] at HO3
      go_wp2_with (refine sel (some 61) (.call _) ?_; refine Lines_stop ?_)
      refine Hole.mk ?_
      refine wpList_snocS rfl (.tmp 59) (.tmp 60) rfl w1.heap.size v3 (lnOf fs) rfl (HO3.out.non ((Chg.refl Non _).alloc _)) w3.heap.size [110, 111] rfl (cell_of_one (heap_alloc_new _ _)) (by omega) (by have h1 := HG3.out.size; simp; omega) ?_
      intro v4 w4 ho4 hg4 hat4
      have HG4 : Hid (Chg Non w1 w4) := Lib.hid ((HG3.out.alloc _).then_new hg4 (fun x hx => HO3.out.ge hx))
      obtain ⟨A4, c4, rfl, h41, h42, h43⟩ := OwnS.rd ho4
      have HR4 := Lib.hid h43
      clear ho4 hg4 hat4 h43
      have hn4 : (lnOf fs ++ [[110, 111]]).length ≤ 1000 := by rw [List.length_append]; simp; have := lnOf_len fs; omega
      have hb4 : ∀ l ∈ lnOf fs ++ [[110, 111]], l.length < 1000000 := by
        intro l hl
        rw [List.mem_append, List.mem_singleton] at hl
        rcases hl with hl | rfl
        · exact lnOf_bd fs l hl
        · simp
      obtain ⟨L4, hL4⟩ : ∃ L, lnOf fs ++ [[110, 111]] = L := ⟨_, rfl⟩
      have hno : codeC L4 = none := by rw [← hL4]; exact code_no fs
      rw [hL4] at HR4 hn4 hb4 h41 ⊢
      have HN := Lib.hid hno
      have HB4 := Lib.hid hb4
      clear hL4 hno hb4
      go_wp2_with fail
      refine (Code_ok A4 c4 L4 w4 (HE.out.non ((HG.out.then_non HG1.out).then_non HG4.out)) HR4.out hn4 HB4.out).mono ?_
      rintro e w5 ⟨hg5, hret⟩
      rw [HN.out] at hret
      subst hret
      have HG5 : Hid (Chg Non w1 w5) := Lib.hid (HG4.out.then_non hg5)
      clear hg5
      obtain ⟨A6, c6, rfl, h61, h62, h63⟩ := HO2.out.rd
      have HR6 := Lib.hid ((h63.non HG1.out).non HG5.out)
      have HR7 := Lib.hid (HRD2.out.non HG5.out)
      clear h63
      have s1 := str_of A2 (wtOf fs) c2 w5 HR7.out
      have s2 := str_of A6 (wtOf fs) c6 w5 HR6.out
      have hss : (wtOf fs == wtOf fs) = true := by simp
      go_wp2_with fail
      refine (iawake_ok w5 (HE.out.non ((HG.out.then_non HG1.out).then_non HG5.out))).mono ?_
      rintro e w6 ⟨rfl, hg6⟩
      go_wp2_with fail
      go_ret
      exact ⟨rfl, ((HG.out.then_non HG1.out).then_non HG5.out).then_non hg6⟩

set_option maxRecDepth 100000 in
set_option maxHeartbeats 4000000 in
theorem lines_long (A : Option Addr) (n c : Nat) (w : World) (hE : Env w) (hl : 40 < n) (hn : n ≤ c) (hc : c ≤ maxLen) :
    Calls Tryd.prog 8 #[.slice A n c] w fun e w' => e = .returned (.bool true) ∧ Chg Non w w' := by
  have hlen : decide ((n : Int) > 40) = true := by simp; omega
  have HE := Lib.hid hE
  clear hE hl hn hc
  go_enter Tryd.func8, Tryd.ntmps8
  go_wp2_with fail
  refine (iawake_ok _ HE.out).mono ?_
  rintro e w1 ⟨rfl, hg⟩
  go_wp2_with fail
  go_ret
  exact ⟨rfl, hg⟩
theorem IsaLines_ok (A : Option Addr) (c : Nat) (fs : List Q4) (w : World) (hE : Env w) (hr : RdQ w A fs) (hf : ∀ f ∈ fs, Four f) (hn : fs.length ≤ c) (hc : c ≤ maxLen) :
    Calls Tryd.prog 8 #[.slice A fs.length c] w fun e w' => e = .returned (.bool true) ∧ Chg Non w w' := by
  by_cases hl : fs.length ≤ 40
  · exact lines_ok A c fs w hE hr hf hl
  · exact lines_long A fs.length c w hE (by omega) hn hc
end Go.Proofs.YtpcmnphohneddaaDoor
