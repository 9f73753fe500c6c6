/- Walks of package isa: the closure of Text, Text, Name. (Written by wip/gen_isa6.py.) -/
import Derived.Test.YtpcmnphohneddaaGreatDoorStrs
import Derived.Test.YtpcmnphohneddaaGreatDoorIsa5
namespace Go.Proofs.YtpcmnphohneddaaGreatDoor
open Go.RowKit
set_option linter.unusedVariables false

theorem heap_setCell1 {w : World} {g : Nat} {x : Value} {t : TypeId} (u : Value) (h : w.heap[g]? = some (.cells #[x] t (0, 0))) : (w.setCell ⟨g, 0, none⟩ u).heap[g]? = some (.cells #[u] t (0, 0)) := by
  have := one_setCell (w := w) (u := u) h
  exact this
theorem g_stepS {P : Program} {ops : Array Oper} {Q : Exit → Act → World → Prop} {i : Nat} {K : Act → World → Prop} {a : Act} {w : World} (w' : World) {oi : Oper} (hi : ops[i]? = some oi) (hdst : oi.dst = none) (hw : Region.wanted oi (yielded ops a.tmps) = true) (he : (execOp a.eval oi).run P w = .ok .skip w') (h : K a w') : wpOp P ops Q i K a w := by
  have hput : a.put oi.dst undef = a := by rw [hdst]; rfl
  unfold wpOp
  simp only [hi, hw, if_true, Oper.wp, he, Oper.upon, hput]
  exact .inl h
/-- the words' cell -/
structure Wds (w0 w : World) (pw : Nat) (l : List (List UInt8)) : Prop where
  chg : Chg Non w0 w
  ge : w0.heap.size ≤ pw
  row : ∃ v, w.heap[pw]? = some (.cells #[v] 61 (0, 0)) ∧ OwnS w0.heap.size w v l ∧ v.ownBlock ≠ some pw
  len : l.length ≤ 100
theorem Wds.non {w0 w w' : World} {pw : Nat} {l : List (List UInt8)} (h : Wds w0 w pw l) (hg : Chg Non w w') : Wds w0 w' pw l := by
  obtain ⟨v, h1, h2, h3⟩ := h.row
  exact ⟨h.chg.then_non hg, h.ge, ⟨v, blockN hg h1, h2.non hg, h3⟩, h.len⟩
theorem Wds.lt {w0 w : World} {pw : Nat} {l : List (List UInt8)} (h : Wds w0 w pw l) : pw < w.heap.size := by
  obtain ⟨v, h1, h2, h3⟩ := h.row
  exact (Array.getElem?_eq_some_iff.1 h1).1

/-- behind the append: all that is known -/
structure AppEnd (w0 w w4 : World) (pw : Nat) (v2 : Value) (l : List (List UInt8)) : Prop where
  chg : Chg (fun k => w0.heap.size ≤ k) w w4
  blk : ∃ x, w4.heap[pw]? = some (.cells #[x] 61 (0, 0))
  own : OwnS w0.heap.size w4 v2 l
  ne : v2.ownBlock ≠ some pw
  ge : w0.heap.size ≤ pw
  form : ∃ g n c, v2 = .slice g n c
theorem app_end {w0 w w3 w4 : World} {pw : Nat} {v v2 : Value} {l' : List (List UInt8)} (hB : w0.heap.size ≤ w.heap.size) (hp : w0.heap.size ≤ pw) (h3 : Chg Non w w3) (hv : w.heap[pw]? = some (.cells #[v] 61 (0, 0))) (hne : v.ownBlock ≠ some pw)
    (ho : OwnS w0.heap.size w4 v2 l') (hg : Chg (fun k => v.ownBlock = some k) w3 w4) (hat : v2.ownBlock = v.ownBlock ∨ v2.ownBlock = some w3.heap.size) (hge : ∀ g, v.ownBlock = some g → w0.heap.size ≤ g) :
    AppEnd w0 w w4 pw v2 l' := by
  have hlt : pw < w.heap.size := (Array.getElem?_eq_some_iff.1 hv).1
  have h3s := h3.size
  refine ⟨h3.of_non.trans hg (fun x h => h) (fun x _ h => hge x h), ⟨v, ?_⟩, ho, ?_, hp, by obtain ⟨A, c, e, _⟩ := ho.rd; exact ⟨A, _, c, e⟩⟩
  · exact (hg.block pw (by omega) (fun e => hne e)).trans (blockN h3 hv)
  · rcases hat with h | h
    · rw [h]; exact hne
    · rw [h]
      intro e
      injection e with e
      omega
/-- the words behind the store -/
def WdsT (w0 w w' : World) (pw : Nat) (l : List (List UInt8)) : Prop :=
  Chg (fun k => w0.heap.size ≤ k) w w' ∧ ∃ v, w'.heap[pw]? = some (.cells #[v] 61 (0, 0)) ∧ OwnS w0.heap.size w' v l ∧ v.ownBlock ≠ some pw
theorem wds_store {w0 w w4 : World} {pw : Nat} {v2 : Value} {l : List (List UInt8)} (h : AppEnd w0 w w4 pw v2 l) : WdsT w0 w (w4.setCell ⟨pw, 0, none⟩ v2) pw l := by
  obtain ⟨x, hx⟩ := h.blk
  refine ⟨h.chg.setCell (p := ⟨pw, 0, none⟩) (.inl h.ge) v2, v2, heap_setCell1 v2 hx, h.own.keep ((Chg.refl (fun k => k = pw) w4).setCell (p := ⟨pw, 0, none⟩) (.inl rfl) v2) (fun g hg e => h.ne (by rw [hg, e])), h.ne⟩

set_option maxRecDepth 100000 in
set_option maxHeartbeats 2000000 in
theorem add_yes (w0 w : World) (pw : Nat) (l : List (List UInt8)) (n : Int) (hE : Env w0) (hW : Wds w0 w pw l) (h0 : -9223372036854775808 ≤ n) (h1 : n ≤ 9223372036854775807) :
    Calls Tryz.prog 80 #[.bool true, .int .i64 n, .pointer (some ⟨pw, 0, none⟩)] w fun e w' => e = .returned (.tuple #[]) ∧ WdsT w0 w w' pw (l ++ [Lib.itoa n]) := by
  have HI : Hid (∀ W, Chg Non w W → Calls Tryz.prog 81 #[.int .i64 n] W fun e w' => e = .returned (mkStr (Lib.itoa n)) ∧ Chg Non W w') := Lib.hid (fun W hg => itoa_ok n W ((hE.non hW.chg).non hg) h0 h1)
  have HPW := Lib.hid hW.ge
  have hB := Lib.hid hW.chg.size
  have hlt := hW.lt
  have hlen := hW.len
  obtain ⟨v, hv, ho, hne⟩ := hW.row
  have HV := Lib.hid hv
  have HO := Lib.hid ho
  replace hne := Lib.hid hne
  clear hv ho h0 h1 hE hW
  go_enter Tryz.func80, Tryz.ntmps80
  go_wp2
  refine wp_region_any (by kernel_rfl) ?_
  refine g_two 0 1 (by kernel_rfl) ?_ ?_
  · have hc0 := cell_of_one (blockN ((Chg.refl Non w).drew) HV.out)
    refine g_pure (some 6) v rfl (by kernel_rfl) (by kernel_rfl) (by go_simp) ?_
    simp only [Act.put, List.setIfInBounds_toArray, List.set_cons_zero, List.set_cons_succ]
    clear hc0
    refine g_one 1 (by kernel_rfl) ?_
    refine g_pure (some 7) (.int .i64 n) rfl (by kernel_rfl) (by kernel_rfl) (by go_simp) ?_
    simp only [Act.put, List.setIfInBounds_toArray, List.set_cons_zero, List.set_cons_succ]
    refine g_one 2 (by kernel_rfl) ?_
    refine g_any rfl (by kernel_rfl) (fun K' hK' => ?_)
    go_simp
    refine (HI.out _ ((Chg.refl Non w).drew)).mono ?_
    rintro e w2 ⟨rfl, hg2⟩
    refine hK' _ _ ?_
    clear hK' K'
    have HG2 : Hid (Chg Non w w2) := Lib.hid ((((Chg.refl Non w).drew).then_non hg2))
    clear hg2
    refine g_one 3 (by kernel_rfl) ?_
    refine g_step (some 9) (.slice (some ⟨w2.heap.size, 0, none⟩) 1 1) (w2.alloc (.cells #[mkStr (Lib.itoa n)] 9)) rfl (by kernel_rfl) (by kernel_rfl) (by kernel_rfl) ?_
    simp only [Act.put, List.setIfInBounds_toArray, List.set_cons_zero, List.set_cons_succ]
    refine g_one 4 (by kernel_rfl) ?_
    refine g_any rfl (by kernel_rfl) (fun K' hK' => ?_)
    refine wp_snocS (.tmp 6) (.tmp 9) rfl w0.heap.size v l rfl (HO.out.non (HG2.out.alloc _)) w2.heap.size (Lib.itoa n) rfl (cell_of_one (heap_alloc_new _ _)) (by omega) (by have h1 := hB.out; have h2 := HG2.out.size; simp; omega) ?_
    intro v2 w4 ho4 hg4 hat
    refine hK' _ _ ?_
    clear hK' K'
    have HX : Hid (AppEnd w0 w w4 pw v2 (l ++ [Lib.itoa n])) := Lib.hid (app_end hB.out HPW.out (HG2.out.alloc _) HV.out hne.out ho4 hg4 hat (fun g hg => HO.out.ge hg))
    clear ho4 hg4 hat
    refine g_one 5 (by kernel_rfl) ?_
    obtain ⟨ox, hbx⟩ := HX.out.blk
    have hc4 := cell_of_one hbx
    have hf4 := free_of_one hbx
    obtain ⟨vg, vn, vc, hv2⟩ := HX.out.form
    subst hv2
    refine g_stepS (w4.setCell ⟨pw, 0, none⟩ (.slice vg vn vc)) rfl rfl (by kernel_rfl) (by go_simp) ?_
    clear hc4 hf4
    refine wpAny_done (by kernel_rfl) ?_ _
    have HS := Lib.hid (wds_store HX.out)
    go_end0
    exact ⟨rfl, HS.out⟩
  · refine g_pure (some 7) (.int .i64 n) rfl (by kernel_rfl) (by kernel_rfl) (by go_simp) ?_
    simp only [Act.put, List.setIfInBounds_toArray, List.set_cons_zero, List.set_cons_succ]
    refine g_two 0 2 (by kernel_rfl) ?_ ?_
    · have hc0 := cell_of_one (blockN ((Chg.refl Non w).drew) HV.out)
      refine g_pure (some 6) v rfl (by kernel_rfl) (by kernel_rfl) (by go_simp) ?_
      simp only [Act.put, List.setIfInBounds_toArray, List.set_cons_zero, List.set_cons_succ]
      clear hc0
      refine g_one 2 (by kernel_rfl) ?_
      refine g_any rfl (by kernel_rfl) (fun K' hK' => ?_)
      go_simp
      refine (HI.out _ ((Chg.refl Non w).drew)).mono ?_
      rintro e w2 ⟨rfl, hg2⟩
      refine hK' _ _ ?_
      clear hK' K'
      have HG2 : Hid (Chg Non w w2) := Lib.hid ((((Chg.refl Non w).drew).then_non hg2))
      clear hg2
      refine g_one 3 (by kernel_rfl) ?_
      refine g_step (some 9) (.slice (some ⟨w2.heap.size, 0, none⟩) 1 1) (w2.alloc (.cells #[mkStr (Lib.itoa n)] 9)) rfl (by kernel_rfl) (by kernel_rfl) (by kernel_rfl) ?_
      simp only [Act.put, List.setIfInBounds_toArray, List.set_cons_zero, List.set_cons_succ]
      refine g_one 4 (by kernel_rfl) ?_
      refine g_any rfl (by kernel_rfl) (fun K' hK' => ?_)
      refine wp_snocS (.tmp 6) (.tmp 9) rfl w0.heap.size v l rfl (HO.out.non (HG2.out.alloc _)) w2.heap.size (Lib.itoa n) rfl (cell_of_one (heap_alloc_new _ _)) (by omega) (by have h1 := hB.out; have h2 := HG2.out.size; simp; omega) ?_
      intro v2 w4 ho4 hg4 hat
      refine hK' _ _ ?_
      clear hK' K'
      have HX : Hid (AppEnd w0 w w4 pw v2 (l ++ [Lib.itoa n])) := Lib.hid (app_end hB.out HPW.out (HG2.out.alloc _) HV.out hne.out ho4 hg4 hat (fun g hg => HO.out.ge hg))
      clear ho4 hg4 hat
      refine g_one 5 (by kernel_rfl) ?_
      obtain ⟨ox, hbx⟩ := HX.out.blk
      have hc4 := cell_of_one hbx
      have hf4 := free_of_one hbx
      obtain ⟨vg, vn, vc, hv2⟩ := HX.out.form
      subst hv2
      refine g_stepS (w4.setCell ⟨pw, 0, none⟩ (.slice vg vn vc)) rfl rfl (by kernel_rfl) (by go_simp) ?_
      clear hc4 hf4
      refine wpAny_done (by kernel_rfl) ?_ _
      have HS := Lib.hid (wds_store HX.out)
      go_end0
      exact ⟨rfl, HS.out⟩
    · refine g_any rfl (by kernel_rfl) (fun K' hK' => ?_)
      go_simp
      refine (HI.out _ ((Chg.refl Non w).drew)).mono ?_
      rintro e w2 ⟨rfl, hg2⟩
      refine hK' _ _ ?_
      clear hK' K'
      have HG2 : Hid (Chg Non w w2) := Lib.hid ((((Chg.refl Non w).drew).then_non hg2))
      clear hg2
      refine g_two 0 3 (by kernel_rfl) ?_ ?_
      · have hc0 := cell_of_one (blockN (HG2.out) HV.out)
        refine g_pure (some 6) v rfl (by kernel_rfl) (by kernel_rfl) (by go_simp) ?_
        simp only [Act.put, List.setIfInBounds_toArray, List.set_cons_zero, List.set_cons_succ]
        clear hc0
        refine g_one 3 (by kernel_rfl) ?_
        refine g_step (some 9) (.slice (some ⟨w2.heap.size, 0, none⟩) 1 1) (w2.alloc (.cells #[mkStr (Lib.itoa n)] 9)) rfl (by kernel_rfl) (by kernel_rfl) (by kernel_rfl) ?_
        simp only [Act.put, List.setIfInBounds_toArray, List.set_cons_zero, List.set_cons_succ]
        refine g_one 4 (by kernel_rfl) ?_
        refine g_any rfl (by kernel_rfl) (fun K' hK' => ?_)
        refine wp_snocS (.tmp 6) (.tmp 9) rfl w0.heap.size v l rfl (HO.out.non (HG2.out.alloc _)) w2.heap.size (Lib.itoa n) rfl (cell_of_one (heap_alloc_new _ _)) (by omega) (by have h1 := hB.out; have h2 := HG2.out.size; simp; omega) ?_
        intro v2 w4 ho4 hg4 hat
        refine hK' _ _ ?_
        clear hK' K'
        have HX : Hid (AppEnd w0 w w4 pw v2 (l ++ [Lib.itoa n])) := Lib.hid (app_end hB.out HPW.out (HG2.out.alloc _) HV.out hne.out ho4 hg4 hat (fun g hg => HO.out.ge hg))
        clear ho4 hg4 hat
        refine g_one 5 (by kernel_rfl) ?_
        obtain ⟨ox, hbx⟩ := HX.out.blk
        have hc4 := cell_of_one hbx
        have hf4 := free_of_one hbx
        obtain ⟨vg, vn, vc, hv2⟩ := HX.out.form
        subst hv2
        refine g_stepS (w4.setCell ⟨pw, 0, none⟩ (.slice vg vn vc)) rfl rfl (by kernel_rfl) (by go_simp) ?_
        clear hc4 hf4
        refine wpAny_done (by kernel_rfl) ?_ _
        have HS := Lib.hid (wds_store HX.out)
        go_end0
        exact ⟨rfl, HS.out⟩
      · refine g_step (some 9) (.slice (some ⟨w2.heap.size, 0, none⟩) 1 1) (w2.alloc (.cells #[mkStr (Lib.itoa n)] 9)) rfl (by kernel_rfl) (by kernel_rfl) (by kernel_rfl) ?_
        simp only [Act.put, List.setIfInBounds_toArray, List.set_cons_zero, List.set_cons_succ]
        refine g_one 0 (by kernel_rfl) ?_
        have hc0 := cell_of_one (blockN (HG2.out.alloc (.cells #[mkStr (Lib.itoa n)] 9)) HV.out)
        refine g_pure (some 6) v rfl (by kernel_rfl) (by kernel_rfl) (by go_simp) ?_
        simp only [Act.put, List.setIfInBounds_toArray, List.set_cons_zero, List.set_cons_succ]
        clear hc0
        refine g_one 4 (by kernel_rfl) ?_
        refine g_any rfl (by kernel_rfl) (fun K' hK' => ?_)
        refine wp_snocS (.tmp 6) (.tmp 9) rfl w0.heap.size v l rfl (HO.out.non (HG2.out.alloc _)) w2.heap.size (Lib.itoa n) rfl (cell_of_one (heap_alloc_new _ _)) (by omega) (by have h1 := hB.out; have h2 := HG2.out.size; simp; omega) ?_
        intro v2 w4 ho4 hg4 hat
        refine hK' _ _ ?_
        clear hK' K'
        have HX : Hid (AppEnd w0 w w4 pw v2 (l ++ [Lib.itoa n])) := Lib.hid (app_end hB.out HPW.out (HG2.out.alloc _) HV.out hne.out ho4 hg4 hat (fun g hg => HO.out.ge hg))
        clear ho4 hg4 hat
        refine g_one 5 (by kernel_rfl) ?_
        obtain ⟨ox, hbx⟩ := HX.out.blk
        have hc4 := cell_of_one hbx
        have hf4 := free_of_one hbx
        obtain ⟨vg, vn, vc, hv2⟩ := HX.out.form
        subst hv2
        refine g_stepS (w4.setCell ⟨pw, 0, none⟩ (.slice vg vn vc)) rfl rfl (by kernel_rfl) (by go_simp) ?_
        clear hc4 hf4
        refine wpAny_done (by kernel_rfl) ?_ _
        have HS := Lib.hid (wds_store HX.out)
        go_end0
        exact ⟨rfl, HS.out⟩

set_option maxRecDepth 100000 in
set_option maxHeartbeats 2000000 in
theorem add_no (n : Int) (p : Option Addr) (w : World) :
    Calls Tryz.prog 80 #[.bool false, .int .i64 n, .pointer p] w fun e w' => e = .returned (.tuple #[]) ∧ w = w' := by
  go_enter Tryz.func80, Tryz.ntmps80
  go_wp2
  go_end0
  exact ⟨rfl, rfl⟩

theorem WdsT.wds {w0 w w' : World} {pw : Nat} {l : List (List UInt8)} (h : WdsT w0 w w' pw l) (h0 : Chg Non w0 w) (hp : w0.heap.size ≤ pw) (hl : l.length ≤ 100) : Wds w0 w' pw l :=
  ⟨h0.then_new h.1 (fun x hx => hx), hp, h.2, hl⟩
/-- one word put behind, or none -/
theorem add_any (w0 w : World) (pw : Nat) (l : List (List UInt8)) (has : Bool) (n : Int) (hE : Env w0) (hW : Wds w0 w pw l) (h0 : -9223372036854775808 ≤ n) (h1 : n ≤ 9223372036854775807) (hl : l.length < 100) :
    Calls Tryz.prog 80 #[.bool has, .int .i64 n, .pointer (some ⟨pw, 0, none⟩)] w fun e w' => e = .returned (.tuple #[]) ∧ Wds w0 w' pw (l ++ wordIf has n) := by
  cases has with
  | true =>
    refine (add_yes w0 w pw l n hE hW h0 h1).mono fun e w' ⟨he, h⟩ => ⟨he, h.wds hW.chg hW.ge (by simp; omega)⟩
  | false =>
    refine (add_no n _ w).mono fun e w' ⟨he, h⟩ => ⟨he, ?_⟩
    subst h
    simpa [wordIf] using hW

/-- words put together -/
theorem join_ok (A : Option Addr) (c : Nat) (l : List (List UInt8)) (sep : List UInt8) (w : World) (h : RdS w A l) (hne : l ≠ []) (hc : l.length ≤ c) (hl : l.length ≤ 1000000) (hlen : (Lib.join l sep).length ≤ 140737488355328) :
    Calls Tryz.prog 82 #[.slice A l.length c, .string ⟨sep.toArray⟩] w fun e w' => e = .returned (mkStr (Lib.join l sep)) ∧ Chg Non w w' := by
  obtain ⟨x0, r, rfl⟩ := List.exists_cons_of_ne_nil hne
  obtain ⟨b, o, rfl, hc0⟩ := h 0 x0 rfl
  have hb := lt_of_cell hc0
  have hm : ((x0 :: r).map (fun x => (⟨x.toArray⟩ : ByteArray))).map (·.data.toList) = x0 :: r := by simp [Function.comp_def]
  have hx := Tryz.strings_Join b o c ((x0 :: r).map fun x => (⟨x.toArray⟩ : ByteArray)) ⟨sep.toArray⟩ w (by
    intro j x hj
    rw [List.getElem?_map] at hj
    obtain ⟨y, hy, rfl⟩ := Option.map_eq_some_iff.1 hj
    obtain ⟨b', o', e, hcj⟩ := h j y hy
    injection e with e
    injection e with e1 e2
    subst e1 e2
    exact hcj) hb (by rw [List.length_map]; omega) (by rw [List.length_map]; exact hc) (by rw [hm]; simpa using hlen)
  rw [hm, List.length_map] at hx
  refine hx.mono fun e w' ⟨he, hbl⟩ => ⟨?_, Chg.of_below hbl (Nat.le_refl _)⟩
  rw [he]
  simp [mkStr]
end Go.Proofs.YtpcmnphohneddaaGreatDoor
