/- Walks of package isa: Parse. -/
import Derived.Test.YtpcmnphohneddaaGreatDoorIsa8
import Derived.Test.YtpcmnphohneddaaGreatDoorIsaT
import Derived.Test.YtpcmnphohneddaaGreatDoorHeld
import Derived.WalkLawsBesides
namespace Go.Proofs.YtpcmnphohneddaaGreatDoor
open Go.RowKit
set_option linter.unusedVariables false

theorem split_ok (l : List UInt8) (w : World) (hE : Env w) (hl : l.length < 1000000) :
    Calls Tryz.prog 71 #[.string ⟨l.toArray⟩, .string ⟨#[32]⟩] w fun e w' => e = .returned (.slice (some ⟨w.heap.size, 0, none⟩) (splitSp l).length (splitSp l).length) ∧ w' = w.alloc (.cells ((splitSp l).map mkStr).toArray 9) := by
  obtain ⟨m, hm⟩ := hE.max
  have h1 : 1 ≤ (⟨#[32]⟩ : ByteArray).size := by decide
  have hs : (⟨l.toArray⟩ : ByteArray).size = l.length := by simp [ByteArray.size]
  have hd := Lib.splitB_data ⟨#[32]⟩ 0 (Lib.countB ⟨l.toArray⟩ ⟨#[32]⟩) ⟨l.toArray⟩
  have hk : Lib.splitK [32] 0 (Lib.countB ⟨l.toArray⟩ ⟨#[32]⟩) l = splitSp l := by rw [← split_eq]; rfl
  have hd2 : (Lib.splitB ⟨#[32]⟩ 0 (Lib.countB ⟨l.toArray⟩ ⟨#[32]⟩) ⟨l.toArray⟩).map (·.data.toList) = splitSp l := by rw [← hk]; simpa using hd
  have hn := Lib.splitB_all ⟨#[32]⟩ h1 0 _ ⟨l.toArray⟩ rfl
  have hlen : (splitSp l).length = Lib.countB ⟨l.toArray⟩ ⟨#[32]⟩ + 1 := by rw [← hd2, List.length_map, hn]
  have hv : (splitSp l).map mkStr = (Lib.splitB ⟨#[32]⟩ 0 (Lib.countB ⟨l.toArray⟩ ⟨#[32]⟩) ⟨l.toArray⟩).map Value.string := by
    rw [← hd2, List.map_map]
    apply List.map_congr_left
    intro x _
    simp [mkStr]
  rw [hlen, hv]
  exact Tryz.strings_Split ⟨l.toArray⟩ ⟨#[32]⟩ m w (by omega) hm h1

theorem splitSp_len (s : List UInt8) : (splitSp s).length ≤ s.length + 1 ∧ ∀ x ∈ splitSp s, x.length ≤ s.length := by
  induction s with
  | nil => simp [splitSp]
  | cons c l ih =>
    obtain ⟨h1, h2⟩ := ih
    unfold splitSp
    split
    · refine ⟨by simp; omega, fun x hx => ?_⟩
      rw [List.mem_cons] at hx
      rcases hx with rfl | hx
      · simp
      · have := h2 x hx
        simp; omega
    · obtain ⟨w, r, hw⟩ := List.exists_cons_of_ne_nil (splitSp_ne l)
      rw [hw] at h1 h2 ⊢
      refine ⟨by simp at h1 ⊢; omega, fun x hx => ?_⟩
      simp only [List.mem_cons] at hx
      rcases hx with rfl | hx
      · have := h2 w (by simp)
        simp; omega
      · have := h2 x (by simp [hx])
        simp; omega

/-- what Parse gives -/
def RetP (s : List UInt8) (e : Ending) : Prop :=
  ∃ r, ParseRel s r ∧ e = .returned (match r with | some x => .tuple #[.agg (insC x), .int .i64 0] | none => .tuple #[.agg (insC Ins.zero), .int .i64 190])

theorem blk0 (w : World) (o o' : Obj) : ((w.alloc o).alloc o').heap[w.heap.size]? = some o := by
  rw [Below.heap_alloc _ _ _ (by simp), heap_alloc_new]
/-- five cells of a block, known whole -/
structure Blk5 (W : World) (b : Nat) (t : TypeId) (v0 v1 v2 v3 v4 : Value) : Prop where
  out : W.heap[b]? = some (.cells #[v0, v1, v2, v3, v4] t (0, 0))
theorem Blk5.keep {S : Nat → Prop} {W W' : World} {b : Nat} {t : TypeId} {v0 v1 v2 v3 v4 : Value} (h : Blk5 W b t v0 v1 v2 v3 v4) (hg : Chg S W W') (hn : ¬ S b) : Blk5 W' b t v0 v1 v2 v3 v4 :=
  ⟨(hg.block b (Array.getElem?_eq_some_iff.1 h.out).1 hn).trans h.out⟩
theorem Blk5.all {W : World} {b : Nat} {t : TypeId} {v0 v1 v2 v3 v4 : Value} (h : Blk5 W b t v0 v1 v2 v3 v4) :
    Cells5 W b v0 v1 v2 v3 v4 ∧ ∀ i, W.frozen? ⟨b, i, none⟩ = false := by
  obtain ⟨h⟩ := h
  exact ⟨⟨(Array.getElem?_eq_some_iff.1 h).1, row_cell h rfl, row_cell h rfl, row_cell h rfl, row_cell h rfl, row_cell h rfl⟩, fun i => frozen_of_row _ _ _ _ _ h⟩
theorem cells5_keep {S : Nat → Prop} {w w' : World} {b : Nat} {v0 v1 v2 v3 v4 : Value} (h : Cells5 w b v0 v1 v2 v3 v4) (hg : Chg S w w') (hn : ¬ S b) : Cells5 w' b v0 v1 v2 v3 v4 := by
  obtain ⟨hz, c0, c1, c2, c3, c4⟩ := h
  exact ⟨Nat.lt_of_lt_of_le hz hg.size, hg.cell_some c0 hn, hg.cell_some c1 hn, hg.cell_some c2 hn, hg.cell_some c3 hn, hg.cell_some c4 hn⟩
theorem blockS {S : Nat → Prop} {w W : World} {b : Nat} {x : Obj} (h : w.heap[b]? = some x) (hg : Chg S w W) (hn : ¬ S b) : W.heap[b]? = some x :=
  (hg.block b (Array.getElem?_eq_some_iff.1 h).1 hn).trans h
theorem p_chg (wr : World) (nq : Nat) (o o' o'' : Obj) : Chg Non wr ((((wr.alloc o).drewN nq).alloc o').alloc o'') := ((((Chg.refl Non _).alloc _).drewN _).alloc _).alloc _
theorem p_heap (wr : World) (nq : Nat) (o o' o'' : Obj) : ((((wr.alloc o).drewN nq).alloc o').alloc o'').heap[wr.heap.size]? = some o ∧ ((((wr.alloc o).drewN nq).alloc o').alloc o'').heap[wr.heap.size + 1]? = some o' ∧ ((((wr.alloc o).drewN nq).alloc o').alloc o'').heap[wr.heap.size + 1 + 1]? = some o'' := by
  refine ⟨?_, ?_, ?_⟩
  · rw [Below.heap_alloc _ _ _ (by simp; omega), Below.heap_alloc _ _ _ (by simp)]
    exact heap_alloc_new _ _
  · rw [Below.heap_alloc _ _ _ (by simp), show wr.heap.size + 1 = ((wr.alloc o).drewN nq).heap.size by simp, heap_alloc_new]
  · rw [show wr.heap.size + 1 + 1 = (((wr.alloc o).drewN nq).alloc o').heap.size by simp, heap_alloc_new]
theorem rd_tail0 {wr : World} {b : Nat} {w0 : List UInt8} {rs : List (List UInt8)} {t : TypeId} {A : Option Addr} (h : wr.heap[b]? = some (.cells (mkStr w0 :: rs.map mkStr).toArray t (0, 0))) (hl : rs.length = 0) : RdS wr A rs := by
  have := List.eq_nil_of_length_eq_zero hl
  subst this
  exact fun i x hx => by simp at hx
theorem rd_tail1 {wr : World} {b : Nat} {w0 : List UInt8} {rs : List (List UInt8)} {t : TypeId} {m : Nat} (h : wr.heap[b]? = some (.cells (mkStr w0 :: rs.map mkStr).toArray t (0, 0))) (hl : rs.length = m) : RdS wr (some ⟨b, 1, none⟩) rs := by
  intro i x hx
  refine ⟨b, 1, rfl, row_cell h ?_⟩
  rw [Nat.add_comm 1 i]
  simp [hx]
theorem rd_ad {wr : World} {b k : Nat} {x : Obj} (h : wr.heap[b]? = some x) : ∀ b' o', some (⟨b, k, none⟩ : Addr) = some ⟨b', o', none⟩ → b' < wr.heap.size := by
  intro b' o' e
  injection e with e
  injection e with e1 e2
  subst e1
  exact (Array.getElem?_eq_some_iff.1 h).1
theorem max3 {P : Program} (ts : Array TypeId) (t : TypeId) (x y z : Int) (w : World) : (Builtin.max_ ts t #[.int .i64 x, .int .i64 y, .int .i64 z]).run P w = .ok (.int .i64 (max x (max y z))) w := by
  rw [run_max_int3]
  congr 2
  split <;> split <;> omega
theorem min3 {P : Program} (ts : Array TypeId) (t : TypeId) (x y z : Int) (w : World) : (Builtin.min_ ts t #[.int .i64 x, .int .i64 y, .int .i64 z]).run P w = .ok (.int .i64 (min x (min y z))) w := by
  rw [run_min_int3]
  congr 2
  split <;> split <;> omega
theorem mkStr_eq (l : List UInt8) : mkStr l = .string ⟨l.toArray⟩ := rfl
theorem set_at (w : World) (b i : Nat) (v : Value) : Chg (fun k => k = b) w (w.setCell ⟨b, i, none⟩ v) := (Chg.refl (fun k => k = b) w).setCell (p := ⟨b, i, none⟩) (.inl rfl) v
theorem set4_at (w : World) (b : Nat) (v4 v1 v2 v3 : Value) : Chg (fun k => k = b) w ((((w.setCell ⟨b, 4, none⟩ v4).setCell ⟨b, 1, none⟩ v1).setCell ⟨b, 2, none⟩ v2).setCell ⟨b, 3, none⟩ v3) :=
  ((((Chg.refl (fun k => k = b) w).setCell (p := ⟨b, 4, none⟩) (.inl rfl) v4).setCell (p := ⟨b, 1, none⟩) (.inl rfl) v1).setCell (p := ⟨b, 2, none⟩) (.inl rfl) v2).setCell (p := ⟨b, 3, none⟩) (.inl rfl) v3
theorem heap_setCellI {w : World} {g i : Nat} {cs : Array Value} {t : TypeId} (u : Value) (h : w.heap[g]? = some (.cells cs t (0, 0))) : (w.setCell ⟨g, i, none⟩ u).heap[g]? = some (.cells (cs.setIfInBounds i u) t (0, 0)) := by
  have hlt := (Array.getElem?_eq_some_iff.1 h).1
  have h' : w.heap[g] = .cells cs t (0, 0) := by simpa [Array.getElem?_eq_getElem hlt] using h
  show (w.heap.modify g _)[g]? = _
  rw [Array.getElem?_eq_getElem (by simpa using hlt), Array.getElem_modify_self, h']
  rfl
theorem Blk5.set4 {W : World} {b : Nat} {t : TypeId} {v0 v1 v2 v3 v4 : Value} (h : Blk5 W b t v0 v1 v2 v3 v4) (u4 u1 u2 u3 : Value) :
    ((((W.setCell ⟨b, 4, none⟩ u4).setCell ⟨b, 1, none⟩ u1).setCell ⟨b, 2, none⟩ u2).setCell ⟨b, 3, none⟩ u3).heap[b]? = some (.cells #[v0, u1, u2, u3, u4] t (0, 0)) :=
  heap_setCellI u3 (heap_setCellI u2 (heap_setCellI u1 (heap_setCellI u4 h.out)))
theorem parseK_val (k : Nat) (w0 : List UInt8) (rs : List (List UInt8)) (s : List UInt8) (F : Frm) (va vb vc vn M N : Int) (hF : opAt k = F) (hV : takeV F.a rs = va ∧ takeV F.b (takeR F.a rs) = vb ∧ takeV F.c (takeR F.b (takeR F.a rs)) = vc)
    (hn : takeV (decide (0 < F.n)) (takeR F.c (takeR F.b (takeR F.a rs))) = vn) (hMN : max va (max vb vc) = M ∧ min va (min vb vc) = N) :
    parseK k (w0 :: rs) s = if 255 < M ∨ N < 0 then none else if textL ⟨k, va.toNat, vb.toNat, vc.toNat, vn⟩ = s then some ⟨k, va.toNat, vb.toNat, vc.toNat, vn⟩ else none := by
  obtain ⟨rfl, rfl, rfl⟩ := hV
  obtain ⟨rfl, rfl⟩ := hMN
  subst hF hn
  rfl
/-- where the search has found its op -/
theorem p_start (w wr : World) (nq : Nat) (rs : List (List UInt8)) (v0 v1 v2 v3 v4 x0 : Value) (A : Option Addr) (c : Nat) (hg : Chg Non w wr)
    (hR : RdS wr A rs) (hA : ∀ b o, A = some ⟨b, o, none⟩ → b < wr.heap.size) (hc : rs.length ≤ c) (hc2 : c ≤ 140737488355328) (hl : ∀ x ∈ rs, x.length ≤ 1000000) :
    let W := (((wr.alloc (.cells #[v0, v1, v2, v3, v4] 73)).drewN nq).alloc (.cells #[x0, .int .u8 0, .int .u8 0, .int .u8 0, .int .i64 0] 38)).alloc (.cells #[.slice A rs.length c] 61)
    Cells5 W wr.heap.size v0 v1 v2 v3 v4 ∧ Blk5 W (wr.heap.size + 1) 38 x0 (.int .u8 0) (.int .u8 0) (.int .u8 0) (.int .i64 0) ∧ Rst W (wr.heap.size + 1 + 1) rs ∧ Chg Non w W ∧ ∀ (b : Nat) (x : Obj), wr.heap[b]? = some x → W.heap[b]? = some x := by
  intro W
  obtain ⟨h1, h2, h3⟩ := p_heap wr nq (.cells #[v0, v1, v2, v3, v4] 73) (.cells #[x0, .int .u8 0, .int .u8 0, .int .u8 0, .int .i64 0] 38) (.cells #[.slice A rs.length c] 61)
  refine ⟨(Blk5.all ⟨h1⟩).1, ⟨h2⟩, ⟨⟨A, c, h3, hR.non (p_chg _ _ _ _ _), hc, hc2, ?_⟩, hl⟩, hg.then_non (p_chg _ _ _ _ _), fun b x hx => blockN (p_chg _ _ _ _ _) hx⟩
  intro b o e
  have := hA b o e
  omega
def NoName (k : Nat) (w0 : List UInt8) : Prop := ∀ j, 1 ≤ j → j < k → (opAt j).name ≠ w0

set_option maxRecDepth 100000 in
set_option maxHeartbeats 2000000 in
theorem Parse_ok (s : List UInt8) (w : World) (hE : Env w) (hl : s.length < 1000000) :
    Calls Tryz.prog 64 #[.string ⟨s.toArray⟩] w fun e w' => RetP s e ∧ Chg Non w w' := by
  have HS := Lib.hid (fun w hE => split_ok s w hE hl)
  have HE := Lib.hid hE
  have HT := Lib.hid (fun w => table_ok w)
  have HI := Lib.hid (fun n h w => (idx_tbl n h w).2)
  obtain ⟨T, hT⟩ : ∃ T, tblC = T := ⟨_, rfl⟩
  rw [hT] at HT HI
  clear hE hT
  obtain ⟨w0, rs, hws⟩ := List.exists_cons_of_ne_nil (splitSp_ne s)
  have HW := Lib.hid hws
  rw [hws] at HS
  obtain ⟨m, hm⟩ : ∃ m, rs.length = m := ⟨_, rfl⟩
  have hlen : (w0 :: rs).length = m + 1 := by simp [hm]
  have HL := Lib.hid hm
  have hrl : ∀ x ∈ rs, x.length ≤ 1000000 := fun x hx => by have := (splitSp_len s).2 x (by rw [hws]; simp [hx]); omega
  have HRL := Lib.hid hrl
  have hml : m ≤ 1000000 := by have := (splitSp_len s).1; rw [hws] at this; simp at this; omega
  have HML := Lib.hid hml
  rw [hlen] at HS
  clear hws hlen hm hrl hml
  go_enter Tryz.func64, Tryz.ntmps64
  go_wp2_with fail
  refine (HS.out _ (HE.out.non ((Chg.refl Non _).alloc _))).mono ?_
  rintro e w1 ⟨rfl, rfl⟩
  go_wp2_with fail
  refine (HT.out _).mono ?_
  rintro e w2 ⟨rfl, hg⟩
  have HG : Hid (Chg Non w w2) := Lib.hid ((((Chg.refl Non _).alloc _).alloc _).then_non hg)
  have HB := Lib.hid (enc_blk hg)
  have HZ := Lib.hid (blockN hg (blk0 _ _ _))
  clear hg
  go_wp2_with fail
  go_loopw [16] (fun i wr => ∃ k : Nat, k ≤ 22 ∧ i = .int .i64 k ∧ Chg Non w2 wr ∧ NoName k w0) (fun i _ => 22 - (intOf i).toNat)
  case atStart => exact ⟨0, Nat.zero_le _, rfl, Chg.refl _ _, fun j h1 h2 => by omega⟩
  case round =>
    obtain ⟨k, hk, rfl, hg, hno⟩ := hrel
    have HGr := Lib.hid hg
    have HNo := Lib.hid hno
    have HBr := blockN hg HB.out
    clear hg hno
    by_cases hlt : k < 22
    · by_cases hk0 : k = 0
      · subst hk0
        have hidx := HI.out 0 hlt
        have hop : opC (opAt 0) = #[.string ⟨#[]⟩, .bool false, .bool false, .bool false, .int .i64 0] := rfl
        rw [hop] at hidx
        have hi0 : ∀ W : World, (Instr.index 83 (.agg T) (.int .i64 0)).run Tryz.prog W = .ok (.agg #[.string ⟨#[]⟩, .bool false, .bool false, .bool false, .int .i64 0]) W := fun W => by simpa using hidx W
        clear hop HBr hidx
        go_wp2_with fail
        go_quiet (fail)
        go_wp2_with fail
        go_roundw
        case rel => exact ⟨1, by omega, by go_num, ((HGr.out.alloc _).drewN _), fun j h1 h2 => by omega⟩
        case measure => simp [intOf]
      · have hidx := HI.out k hlt
        obtain ⟨F, hF⟩ : ∃ F, opAt k = F := ⟨_, rfl⟩
        rw [hF] at hidx
        have HF := Lib.hid hF
        have hop : opC F = #[.string ⟨F.name.toArray⟩, .bool F.a, .bool F.b, .bool F.c, .int .i64 F.n] := rfl
        rw [hop] at hidx
        clear hop hF
        have hc0 : wr.cell? ⟨w.heap.size + 1, 0, none⟩ = some (.string ⟨w0.toArray⟩) := row_cell HBr rfl
        have hzr : w.heap.size + 1 < wr.heap.size := (Array.getElem?_eq_some_iff.1 HBr).1
        have hkz : ((k : Int) == 0) = false := by simp; omega
        replace HBr := Lib.hid HBr
        cases hname : (F.name == w0) with
        | false =>
          have HN := Lib.hid hname
          go_wp2_with fail
          go_quiet (fail)
          go_wp2_with fail
          go_roundw
          case rel =>
            refine ⟨k + 1, by omega, by go_num, ((HGr.out.alloc _).drewN _), fun j h1 h2 => ?_⟩
            by_cases hjk : j = k
            · subst hjk
              rw [HF.out]
              have := HN.out
              simpa using this
            · exact HNo.out j h1 (by omega)
          case measure => simp [intOf]; omega
        | true =>
          have HN := Lib.hid hname
          rcases Nat.eq_zero_or_pos m with hm0 | hm
          · subst hm0
            go_wp2_with fail
            go_quiet (fail)
            go_wp2_with fail
            have HP := Lib.hid (p_start w wr nq rs (.string ⟨F.name.toArray⟩) (.bool F.a) (.bool F.b) (.bool F.c) (.int .i64 F.n) (.int .u8 k) (some ⟨w.heap.size + 1, 0, none⟩) 0 (HG.out.then_non HGr.out) (rd_tail0 HBr.out HL.out) (rd_ad HBr.out) (by have := HL.out; omega) (by have := HL.out; have := HML.out; omega) HRL.out)
            rw [HL.out] at HP
            have HSX := Lib.hid HP.out.1
            have HXX := Lib.hid HP.out.2.1
            have HRX := Lib.hid HP.out.2.2.1
            have HGX := Lib.hid HP.out.2.2.2.1
            have HZX := Lib.hid (HP.out.2.2.2.2 _ _ (blockN HGr.out HZ.out))
            clear HP
            refine wp_region_held_drew (S := fun W => Cells5 W wr.heap.size (.string ⟨F.name.toArray⟩) (.bool F.a) (.bool F.b) (.bool F.c) (.int .i64 F.n)) (by kernel_rfl) (HSX.out.non ((Chg.refl Non _).drew)) (fun hHeld => ?_)
            have HSX := Lib.hid hHeld
            clear hHeld
            have HXX := Lib.hid (HXX.out.keep ((Chg.refl Non _).drew) (fun e => e))
            have HZX := Lib.hid (blockN ((Chg.refl Non _).drew) HZX.out)
            have HGX := Lib.hid (HGX.out.drew)
            have HRX := Lib.hid (HRX.out.non ((Chg.refl Non _).drew))
            refine h_pure 0 (some 36) (.func (.func 72) #[] #[.pointer (some ⟨wr.heap.size + 1 + 1, 0, none⟩)]) rfl (by kernel_rfl) (by kernel_rfl) (by kernel_rfl) (by kernel_rfl) (fun _ _ _ h => h) (by kernel_rfl) (fun W hW => by obtain ⟨hz, d0, d1, d2, d3, d4⟩ := hW; go_simp) HSX.out ?_
            simp only [Act.put, List.setIfInBounds_toArray, List.set_cons_zero, List.set_cons_succ]
            refine h_pure 1 (some 37) (.pointer (some ⟨wr.heap.size, 1, none⟩)) rfl (by kernel_rfl) (by kernel_rfl) (by kernel_rfl) (by kernel_rfl) (fun _ _ _ h => h) (by kernel_rfl) (fun W hW => by obtain ⟨hz, d0, d1, d2, d3, d4⟩ := hW; go_simp) HSX.out ?_
            simp only [Act.put, List.setIfInBounds_toArray, List.set_cons_zero, List.set_cons_succ]
            refine h_pure 2 (some 38) (.pointer (some ⟨wr.heap.size, 1, none⟩)) rfl (by kernel_rfl) (by kernel_rfl) (by kernel_rfl) (by kernel_rfl) (fun _ _ _ h => h) (by kernel_rfl) (fun W hW => by obtain ⟨hz, d0, d1, d2, d3, d4⟩ := hW; go_simp) HSX.out ?_
            simp only [Act.put, List.setIfInBounds_toArray, List.set_cons_zero, List.set_cons_succ]
            refine h_pure 3 (some 39) (.bool F.a) rfl (by kernel_rfl) (by kernel_rfl) (by kernel_rfl) (by kernel_rfl) (fun _ _ _ h => h) (by kernel_rfl) (fun W hW => by obtain ⟨hz, d0, d1, d2, d3, d4⟩ := hW; go_simp) HSX.out ?_
            simp only [Act.put, List.setIfInBounds_toArray, List.set_cons_zero, List.set_cons_succ]
            refine h_pure 5 (some 41) (.func (.func 72) #[] #[.pointer (some ⟨wr.heap.size + 1 + 1, 0, none⟩)]) rfl (by kernel_rfl) (by kernel_rfl) (by kernel_rfl) (by kernel_rfl) (fun _ _ _ h => h) (by kernel_rfl) (fun W hW => by obtain ⟨hz, d0, d1, d2, d3, d4⟩ := hW; go_simp) HSX.out ?_
            simp only [Act.put, List.setIfInBounds_toArray, List.set_cons_zero, List.set_cons_succ]
            refine h_pure 6 (some 42) (.pointer (some ⟨wr.heap.size, 1, none⟩)) rfl (by kernel_rfl) (by kernel_rfl) (by kernel_rfl) (by kernel_rfl) (fun _ _ _ h => h) (by kernel_rfl) (fun W hW => by obtain ⟨hz, d0, d1, d2, d3, d4⟩ := hW; go_simp) HSX.out ?_
            simp only [Act.put, List.setIfInBounds_toArray, List.set_cons_zero, List.set_cons_succ]
            refine h_pure 7 (some 43) (.pointer (some ⟨wr.heap.size, 2, none⟩)) rfl (by kernel_rfl) (by kernel_rfl) (by kernel_rfl) (by kernel_rfl) (fun _ _ _ h => h) (by kernel_rfl) (fun W hW => by obtain ⟨hz, d0, d1, d2, d3, d4⟩ := hW; go_simp) HSX.out ?_
            simp only [Act.put, List.setIfInBounds_toArray, List.set_cons_zero, List.set_cons_succ]
            refine h_pure 8 (some 44) (.bool F.b) rfl (by kernel_rfl) (by kernel_rfl) (by kernel_rfl) (by kernel_rfl) (fun _ _ _ h => h) (by kernel_rfl) (fun W hW => by obtain ⟨hz, d0, d1, d2, d3, d4⟩ := hW; go_simp) HSX.out ?_
            simp only [Act.put, List.setIfInBounds_toArray, List.set_cons_zero, List.set_cons_succ]
            refine h_pure 10 (some 46) (.func (.func 72) #[] #[.pointer (some ⟨wr.heap.size + 1 + 1, 0, none⟩)]) rfl (by kernel_rfl) (by kernel_rfl) (by kernel_rfl) (by kernel_rfl) (fun _ _ _ h => h) (by kernel_rfl) (fun W hW => by obtain ⟨hz, d0, d1, d2, d3, d4⟩ := hW; go_simp) HSX.out ?_
            simp only [Act.put, List.setIfInBounds_toArray, List.set_cons_zero, List.set_cons_succ]
            refine h_pure 11 (some 47) (.pointer (some ⟨wr.heap.size, 1, none⟩)) rfl (by kernel_rfl) (by kernel_rfl) (by kernel_rfl) (by kernel_rfl) (fun _ _ _ h => h) (by kernel_rfl) (fun W hW => by obtain ⟨hz, d0, d1, d2, d3, d4⟩ := hW; go_simp) HSX.out ?_
            simp only [Act.put, List.setIfInBounds_toArray, List.set_cons_zero, List.set_cons_succ]
            refine h_pure 12 (some 48) (.pointer (some ⟨wr.heap.size, 3, none⟩)) rfl (by kernel_rfl) (by kernel_rfl) (by kernel_rfl) (by kernel_rfl) (fun _ _ _ h => h) (by kernel_rfl) (fun W hW => by obtain ⟨hz, d0, d1, d2, d3, d4⟩ := hW; go_simp) HSX.out ?_
            simp only [Act.put, List.setIfInBounds_toArray, List.set_cons_zero, List.set_cons_succ]
            refine h_pure 13 (some 49) (.bool F.c) rfl (by kernel_rfl) (by kernel_rfl) (by kernel_rfl) (by kernel_rfl) (fun _ _ _ h => h) (by kernel_rfl) (fun W hW => by obtain ⟨hz, d0, d1, d2, d3, d4⟩ := hW; go_simp) HSX.out ?_
            simp only [Act.put, List.setIfInBounds_toArray, List.set_cons_zero, List.set_cons_succ]
            refine h_one 4 (by kernel_rfl) rfl (by kernel_rfl) ?_
            intro K hK
            go_simp
            refine (take_any F.a _ (rs) _ (HE.out.non HGX.out) HRX.out).mono ?_
            rintro e y1 ⟨rfl, hR, hgt⟩
            have HSX := Lib.hid (cells5_keep HSX.out hgt (by omega))
            have HXX := Lib.hid (HXX.out.keep hgt (by omega))
            have HZX := Lib.hid (blockS HZX.out hgt (by omega))
            have HGX : Hid (Chg Non w y1) := Lib.hid (HGX.out.then_new hgt (fun x e => by omega))
            have HRX := Lib.hid hR
            clear hR hgt
            refine hK.out _ _ HSX.out (fun _ => ?_)
            clear hK K
            refine h_one 9 (by kernel_rfl) rfl (by kernel_rfl) ?_
            intro K hK
            go_simp
            refine (take_any F.b _ (takeR F.a rs) _ (HE.out.non HGX.out) HRX.out).mono ?_
            rintro e y2 ⟨rfl, hR, hgt⟩
            have HSX := Lib.hid (cells5_keep HSX.out hgt (by omega))
            have HXX := Lib.hid (HXX.out.keep hgt (by omega))
            have HZX := Lib.hid (blockS HZX.out hgt (by omega))
            have HGX : Hid (Chg Non w y2) := Lib.hid (HGX.out.then_new hgt (fun x e => by omega))
            have HRX := Lib.hid hR
            clear hR hgt
            refine hK.out _ _ HSX.out (fun _ => ?_)
            clear hK K
            refine h_one 14 (by kernel_rfl) rfl (by kernel_rfl) ?_
            intro K hK
            go_simp
            refine (take_any F.c _ (takeR F.b (takeR F.a rs)) _ (HE.out.non HGX.out) HRX.out).mono ?_
            rintro e y3 ⟨rfl, hR, hgt⟩
            have HSX := Lib.hid (cells5_keep HSX.out hgt (by omega))
            have HXX := Lib.hid (HXX.out.keep hgt (by omega))
            have HZX := Lib.hid (blockS HZX.out hgt (by omega))
            have HGX : Hid (Chg Non w y3) := Lib.hid (HGX.out.then_new hgt (fun x e => by omega))
            have HRX := Lib.hid hR
            clear hR hgt
            refine hK.out _ _ HSX.out (fun _ => ?_)
            clear hK K
            obtain ⟨va, hva⟩ : ∃ v, takeV F.a rs = v := ⟨_, rfl⟩
            obtain ⟨vb, hvb⟩ : ∃ v, takeV F.b (takeR F.a rs) = v := ⟨_, rfl⟩
            obtain ⟨vc, hvc⟩ : ∃ v, takeV F.c (takeR F.b (takeR F.a rs)) = v := ⟨_, rfl⟩
            have ba := takeV_bd F.a rs
            have bb := takeV_bd F.b (takeR F.a rs)
            have bc := takeV_bd F.c (takeR F.b (takeR F.a rs))
            rw [hva] at ba ⊢
            rw [hvb] at bb ⊢
            rw [hvc] at bc ⊢
            have HV : Hid (takeV F.a rs = va ∧ takeV F.b (takeR F.a rs) = vb ∧ takeV F.c (takeR F.b (takeR F.a rs)) = vc) := Lib.hid ⟨hva, hvb, hvc⟩
            clear hva hvb hvc
            refine h_pure 15 (some 10) (.int .i64 va) rfl (by kernel_rfl) (by kernel_rfl) (by kernel_rfl) (by kernel_rfl) (fun _ _ _ h => h) (by kernel_rfl) (fun W hW => by go_simp) HSX.out ?_
            simp only [Act.put, List.setIfInBounds_toArray, List.set_cons_zero, List.set_cons_succ]
            refine h_pure 16 (some 11) (.int .i64 vb) rfl (by kernel_rfl) (by kernel_rfl) (by kernel_rfl) (by kernel_rfl) (fun _ _ _ h => h) (by kernel_rfl) (fun W hW => by go_simp) HSX.out ?_
            simp only [Act.put, List.setIfInBounds_toArray, List.set_cons_zero, List.set_cons_succ]
            refine h_pure 17 (some 12) (.int .i64 vc) rfl (by kernel_rfl) (by kernel_rfl) (by kernel_rfl) (by kernel_rfl) (fun _ _ _ h => h) (by kernel_rfl) (fun W hW => by go_simp) HSX.out ?_
            simp only [Act.put, List.setIfInBounds_toArray, List.set_cons_zero, List.set_cons_succ]
            refine wpAnyH_done (by kernel_rfl) ?_ _
            obtain ⟨⟨xz, x0, x1, x2, x3, x4⟩, xf⟩ := HXX.out.all
            have xf4 := xf 4
            obtain ⟨dz, d0, d1, d2, d3, d4⟩ := HSX.out
            go_wp2_with fail
            refine (take_any (decide (0 < F.n)) _ (takeR F.c (takeR F.b (takeR F.a rs))) _ (HE.out.non HGX.out) HRX.out).mono ?_
            rintro e y4 ⟨rfl, hR, hgt⟩
            obtain ⟨vn, hvn⟩ : ∃ v, takeV (decide (0 < F.n)) (takeR F.c (takeR F.b (takeR F.a rs))) = v := ⟨_, rfl⟩
            have bn := takeV_bd (decide (0 < F.n)) (takeR F.c (takeR F.b (takeR F.a rs)))
            rw [hvn] at bn ⊢
            have HVN := Lib.hid hvn
            clear hvn hR x0 x1 x2 x3 x4 xf xf4 d0 d1 d2 d3 d4 dz xz
            have HXX := Lib.hid (HXX.out.keep hgt (by omega))
            have HZX := Lib.hid (blockS HZX.out hgt (by omega))
            have HGX : Hid (Chg Non w y4) := Lib.hid (HGX.out.then_new hgt (fun x e => by omega))
            clear hgt
            obtain ⟨⟨xz, x0, x1, x2, x3, x4⟩, xf⟩ := HXX.out.all
            have xf4 := xf 4
            have xf1 := xf 1
            have xf2 := xf 2
            have xf3 := xf 3
            clear xf
            obtain ⟨M, hM⟩ : ∃ M, max va (max vb vc) = M := ⟨_, rfl⟩
            obtain ⟨N, hN⟩ : ∃ N, min va (min vb vc) = N := ⟨_, rfl⟩
            have HMN := Lib.hid (And.intro hM hN)
            have hmx : ∀ W : World, (Builtin.max_ #[3, 3, 3] 3 #[.int .i64 va, .int .i64 vb, .int .i64 vc]).run Tryz.prog W = .ok (.int .i64 M) W := fun W => by rw [← hM]; exact max3 _ _ _ _ _ _
            have hmn : ∀ W : World, (Builtin.min_ #[3, 3, 3] 3 #[.int .i64 va, .int .i64 vb, .int .i64 vc]).run Tryz.prog W = .ok (.int .i64 N) W := fun W => by rw [← hN]; exact min3 _ _ _ _ _ _
            have hva : 255 < M ∨ N < 0 ∨ (va.toNat : Int) = va ∧ (vb.toNat : Int) = vb ∧ (vc.toNat : Int) = vc ∧ va ≤ 255 ∧ vb ≤ 255 ∧ vc ≤ 255 ∧ 0 ≤ va ∧ 0 ≤ vb ∧ 0 ≤ vc := by omega
            clear hM hN
            have HPK := Lib.hid (parseK_val k w0 rs s F va vb vc vn M N HF.out HV.out HVN.out HMN.out)
            have HPR : Hid (∀ r, r = parseK k (w0 :: rs) s → ParseRel s r) := Lib.hid (fun r hr => .inr ⟨k, by omega, by omega, by rw [HW.out, HF.out]; show F.name = w0; simpa using HN.out, by rw [HW.out]; exact hr⟩)
            by_cases h255 : 255 < M
            · have g1 : decide (M > 255) = true := by simp; omega
              clear hva
              go_wp2_with (first
                | (refine sel none (.store 38 (.tmp 2) (.tmp 85)) ?_
                   refine wpList_store_rowA rfl 38 (.tmp 2) (.tmp 85) rfl w.heap.size #[.int .u8 0, .int .u8 0, .int .u8 0, .int .u8 0, .int .i64 0] rfl rfl 38 _ (blockS HZX.out (set_at _ _ _ _) (by omega)) info_ins rfl (by simp [Value.oneCell']) ?_
                   intro W hgW hbW
                   have HBW := Lib.hid hbW
                   have HGW := Lib.hid hgW
                   clear hbW hgW))
              exact bodyPost_ret (results_ct Tryz.results64 _ _ w.heap.size 38 _ (0, 0) _ (.int .i64 190) rfl rfl HBW.out Tryz.underlying38 rfl info_ins) rfl ⟨⟨none, HPR.out _ (by rw [HPK.out, if_pos (.inl h255)]), rfl⟩, (HGX.out.then_new (set_at _ _ _ _) (fun x e => by omega)).then_new HGW.out (fun x e => by omega)⟩
            · have g1 : decide (M > 255) = false := by simp; omega
              by_cases hneg : N < 0
              · have g2 : decide (N < 0) = true := by simp; omega
                clear hva
                go_wp2_with (first
                  | (refine sel none (.store 38 (.tmp 2) (.tmp 85)) ?_
                     refine wpList_store_rowA rfl 38 (.tmp 2) (.tmp 85) rfl w.heap.size #[.int .u8 0, .int .u8 0, .int .u8 0, .int .u8 0, .int .i64 0] rfl rfl 38 _ (blockS HZX.out (set_at _ _ _ _) (by omega)) info_ins rfl (by simp [Value.oneCell']) ?_
                     intro W hgW hbW
                     have HBW := Lib.hid hbW
                     have HGW := Lib.hid hgW
                     clear hbW hgW))
                exact bodyPost_ret (results_ct Tryz.results64 _ _ w.heap.size 38 _ (0, 0) _ (.int .i64 190) rfl rfl HBW.out Tryz.underlying38 rfl info_ins) rfl ⟨⟨none, HPR.out _ (by rw [HPK.out, if_pos (.inr hneg)]), rfl⟩, (HGX.out.then_new (set_at _ _ _ _) (fun x e => by omega)).then_new HGW.out (fun x e => by omega)⟩
              · have g2 : decide (N < 0) = false := by simp; omega
                obtain ⟨na, rfl⟩ : ∃ na : Nat, va = na := ⟨va.toNat, by omega⟩
                obtain ⟨nb, rfl⟩ : ∃ na : Nat, vb = na := ⟨vb.toNat, by omega⟩
                obtain ⟨nc, rfl⟩ : ∃ na : Nat, vc = na := ⟨vc.toNat, by omega⟩
                have ha0 : (na : Int) < 256 := by omega
                have hb0 : (nb : Int) < 256 := by omega
                have hc00 : (nc : Int) < 256 := by omega
                clear hva
                have HPK2 := Lib.hid (HPK.out.trans (if_neg (by omega)))
                simp only [Int.toNat_natCast] at HPK2
                have HTX := Lib.hid (fun w hE => Text_any ⟨k, na, nb, nc, vn⟩ w hE)
                go_wp2_with fail
                have HG4 := Lib.hid (set4_at y4 (wr.heap.size + 1) (.int .i64 vn) (.int .u8 na) (.int .u8 nb) (.int .u8 nc))
                refine (HTX.out _ (HE.out.non (HGX.out.then_new HG4.out (fun x e => by omega)))).mono ?_
                rintro e y5 ⟨rfl, hg5⟩
                have HX5 := Lib.hid (blockN hg5 (HXX.out.set4 (.int .i64 vn) (.int .u8 na) (.int .u8 nb) (.int .u8 nc)))
                have HZ5 := Lib.hid (blockN hg5 (blockS HZX.out HG4.out (by omega)))
                have HG5 : Hid (Chg Non w y5) := Lib.hid ((HGX.out.then_new HG4.out (fun x e => by omega)).then_non hg5)
                clear hg5 x0 x1 x2 x3 x4 xf1 xf2 xf3 xf4 xz
                obtain ⟨⟨xz, x0, x1, x2, x3, x4⟩, _⟩ := (Blk5.mk HX5.out).all
                obtain ⟨tx, htx⟩ : ∃ tx, textL ⟨k, na, nb, nc, vn⟩ = tx := ⟨_, rfl⟩
                rw [htx] at HPK2 ⊢
                clear htx HTX
                rw [mkStr_eq]
                cases heq : (tx == s) with
                | false =>
                  have HQ := Lib.hid heq
                  go_wp2_with (first
                    | (refine sel none (.store 38 (.tmp 2) (.tmp 85)) ?_
                       refine wpList_store_rowA rfl 38 (.tmp 2) (.tmp 85) rfl w.heap.size #[.int .u8 0, .int .u8 0, .int .u8 0, .int .u8 0, .int .i64 0] rfl rfl 38 _ (HZ5.out) info_ins rfl (by simp [Value.oneCell']) ?_
                       intro W hgW hbW
                       have HBW := Lib.hid hbW
                       have HGW := Lib.hid hgW
                       clear hbW hgW))
                  exact bodyPost_ret (results_ct Tryz.results64 _ _ w.heap.size 38 _ (0, 0) _ (.int .i64 190) rfl rfl HBW.out Tryz.underlying38 rfl info_ins) rfl ⟨⟨none, HPR.out _ (by rw [HPK2.out, if_neg (fun e => by have := HQ.out; rw [e] at this; simp at this)]), rfl⟩, (HG5.out).then_new HGW.out (fun x e => by omega)⟩
                | true =>
                  have HQ := Lib.hid heq
                  go_wp2_with (first
                    | (refine sel none (.store 38 (.tmp 2) (.tmp 83)) ?_
                       refine wpList_store_rowA rfl 38 (.tmp 2) (.tmp 83) rfl w.heap.size #[.int .u8 k, .int .u8 na, .int .u8 nb, .int .u8 nc, .int .i64 vn] rfl rfl 38 _ (HZ5.out) info_ins rfl (by simp [Value.oneCell']) ?_
                       intro W hgW hbW
                       have HBW := Lib.hid hbW
                       have HGW := Lib.hid hgW
                       clear hbW hgW))
                  exact bodyPost_ret (results_ct Tryz.results64 _ _ w.heap.size 38 _ (0, 0) _ (.int .i64 0) rfl rfl HBW.out Tryz.underlying38 rfl info_ins) rfl ⟨⟨some ⟨k, na, nb, nc, vn⟩, HPR.out _ (by rw [HPK2.out, if_pos (by have := HQ.out; simpa using this)]), rfl⟩, (HG5.out).then_new HGW.out (fun x e => by omega)⟩
          · have hm1 : ¬ m = 0 := by omega
            go_wp2_with fail
            go_quiet (fail)
            go_wp2_with fail
            have HP := Lib.hid (p_start w wr nq rs (.string ⟨F.name.toArray⟩) (.bool F.a) (.bool F.b) (.bool F.c) (.int .i64 F.n) (.int .u8 k) (some ⟨w.heap.size + 1, 1, none⟩) m (HG.out.then_non HGr.out) (rd_tail1 HBr.out HL.out) (rd_ad HBr.out) (by have := HL.out; omega) (by have := HL.out; have := HML.out; omega) HRL.out)
            rw [HL.out] at HP
            have HSX := Lib.hid HP.out.1
            have HXX := Lib.hid HP.out.2.1
            have HRX := Lib.hid HP.out.2.2.1
            have HGX := Lib.hid HP.out.2.2.2.1
            have HZX := Lib.hid (HP.out.2.2.2.2 _ _ (blockN HGr.out HZ.out))
            clear HP
            refine wp_region_held_drew (S := fun W => Cells5 W wr.heap.size (.string ⟨F.name.toArray⟩) (.bool F.a) (.bool F.b) (.bool F.c) (.int .i64 F.n)) (by kernel_rfl) (HSX.out.non ((Chg.refl Non _).drew)) (fun hHeld => ?_)
            have HSX := Lib.hid hHeld
            clear hHeld
            have HXX := Lib.hid (HXX.out.keep ((Chg.refl Non _).drew) (fun e => e))
            have HZX := Lib.hid (blockN ((Chg.refl Non _).drew) HZX.out)
            have HGX := Lib.hid (HGX.out.drew)
            have HRX := Lib.hid (HRX.out.non ((Chg.refl Non _).drew))
            refine h_pure 0 (some 36) (.func (.func 72) #[] #[.pointer (some ⟨wr.heap.size + 1 + 1, 0, none⟩)]) rfl (by kernel_rfl) (by kernel_rfl) (by kernel_rfl) (by kernel_rfl) (fun _ _ _ h => h) (by kernel_rfl) (fun W hW => by obtain ⟨hz, d0, d1, d2, d3, d4⟩ := hW; go_simp) HSX.out ?_
            simp only [Act.put, List.setIfInBounds_toArray, List.set_cons_zero, List.set_cons_succ]
            refine h_pure 1 (some 37) (.pointer (some ⟨wr.heap.size, 1, none⟩)) rfl (by kernel_rfl) (by kernel_rfl) (by kernel_rfl) (by kernel_rfl) (fun _ _ _ h => h) (by kernel_rfl) (fun W hW => by obtain ⟨hz, d0, d1, d2, d3, d4⟩ := hW; go_simp) HSX.out ?_
            simp only [Act.put, List.setIfInBounds_toArray, List.set_cons_zero, List.set_cons_succ]
            refine h_pure 2 (some 38) (.pointer (some ⟨wr.heap.size, 1, none⟩)) rfl (by kernel_rfl) (by kernel_rfl) (by kernel_rfl) (by kernel_rfl) (fun _ _ _ h => h) (by kernel_rfl) (fun W hW => by obtain ⟨hz, d0, d1, d2, d3, d4⟩ := hW; go_simp) HSX.out ?_
            simp only [Act.put, List.setIfInBounds_toArray, List.set_cons_zero, List.set_cons_succ]
            refine h_pure 3 (some 39) (.bool F.a) rfl (by kernel_rfl) (by kernel_rfl) (by kernel_rfl) (by kernel_rfl) (fun _ _ _ h => h) (by kernel_rfl) (fun W hW => by obtain ⟨hz, d0, d1, d2, d3, d4⟩ := hW; go_simp) HSX.out ?_
            simp only [Act.put, List.setIfInBounds_toArray, List.set_cons_zero, List.set_cons_succ]
            refine h_pure 5 (some 41) (.func (.func 72) #[] #[.pointer (some ⟨wr.heap.size + 1 + 1, 0, none⟩)]) rfl (by kernel_rfl) (by kernel_rfl) (by kernel_rfl) (by kernel_rfl) (fun _ _ _ h => h) (by kernel_rfl) (fun W hW => by obtain ⟨hz, d0, d1, d2, d3, d4⟩ := hW; go_simp) HSX.out ?_
            simp only [Act.put, List.setIfInBounds_toArray, List.set_cons_zero, List.set_cons_succ]
            refine h_pure 6 (some 42) (.pointer (some ⟨wr.heap.size, 1, none⟩)) rfl (by kernel_rfl) (by kernel_rfl) (by kernel_rfl) (by kernel_rfl) (fun _ _ _ h => h) (by kernel_rfl) (fun W hW => by obtain ⟨hz, d0, d1, d2, d3, d4⟩ := hW; go_simp) HSX.out ?_
            simp only [Act.put, List.setIfInBounds_toArray, List.set_cons_zero, List.set_cons_succ]
            refine h_pure 7 (some 43) (.pointer (some ⟨wr.heap.size, 2, none⟩)) rfl (by kernel_rfl) (by kernel_rfl) (by kernel_rfl) (by kernel_rfl) (fun _ _ _ h => h) (by kernel_rfl) (fun W hW => by obtain ⟨hz, d0, d1, d2, d3, d4⟩ := hW; go_simp) HSX.out ?_
            simp only [Act.put, List.setIfInBounds_toArray, List.set_cons_zero, List.set_cons_succ]
            refine h_pure 8 (some 44) (.bool F.b) rfl (by kernel_rfl) (by kernel_rfl) (by kernel_rfl) (by kernel_rfl) (fun _ _ _ h => h) (by kernel_rfl) (fun W hW => by obtain ⟨hz, d0, d1, d2, d3, d4⟩ := hW; go_simp) HSX.out ?_
            simp only [Act.put, List.setIfInBounds_toArray, List.set_cons_zero, List.set_cons_succ]
            refine h_pure 10 (some 46) (.func (.func 72) #[] #[.pointer (some ⟨wr.heap.size + 1 + 1, 0, none⟩)]) rfl (by kernel_rfl) (by kernel_rfl) (by kernel_rfl) (by kernel_rfl) (fun _ _ _ h => h) (by kernel_rfl) (fun W hW => by obtain ⟨hz, d0, d1, d2, d3, d4⟩ := hW; go_simp) HSX.out ?_
            simp only [Act.put, List.setIfInBounds_toArray, List.set_cons_zero, List.set_cons_succ]
            refine h_pure 11 (some 47) (.pointer (some ⟨wr.heap.size, 1, none⟩)) rfl (by kernel_rfl) (by kernel_rfl) (by kernel_rfl) (by kernel_rfl) (fun _ _ _ h => h) (by kernel_rfl) (fun W hW => by obtain ⟨hz, d0, d1, d2, d3, d4⟩ := hW; go_simp) HSX.out ?_
            simp only [Act.put, List.setIfInBounds_toArray, List.set_cons_zero, List.set_cons_succ]
            refine h_pure 12 (some 48) (.pointer (some ⟨wr.heap.size, 3, none⟩)) rfl (by kernel_rfl) (by kernel_rfl) (by kernel_rfl) (by kernel_rfl) (fun _ _ _ h => h) (by kernel_rfl) (fun W hW => by obtain ⟨hz, d0, d1, d2, d3, d4⟩ := hW; go_simp) HSX.out ?_
            simp only [Act.put, List.setIfInBounds_toArray, List.set_cons_zero, List.set_cons_succ]
            refine h_pure 13 (some 49) (.bool F.c) rfl (by kernel_rfl) (by kernel_rfl) (by kernel_rfl) (by kernel_rfl) (fun _ _ _ h => h) (by kernel_rfl) (fun W hW => by obtain ⟨hz, d0, d1, d2, d3, d4⟩ := hW; go_simp) HSX.out ?_
            simp only [Act.put, List.setIfInBounds_toArray, List.set_cons_zero, List.set_cons_succ]
            refine h_one 4 (by kernel_rfl) rfl (by kernel_rfl) ?_
            intro K hK
            go_simp
            refine (take_any F.a _ (rs) _ (HE.out.non HGX.out) HRX.out).mono ?_
            rintro e y1 ⟨rfl, hR, hgt⟩
            have HSX := Lib.hid (cells5_keep HSX.out hgt (by omega))
            have HXX := Lib.hid (HXX.out.keep hgt (by omega))
            have HZX := Lib.hid (blockS HZX.out hgt (by omega))
            have HGX : Hid (Chg Non w y1) := Lib.hid (HGX.out.then_new hgt (fun x e => by omega))
            have HRX := Lib.hid hR
            clear hR hgt
            refine hK.out _ _ HSX.out (fun _ => ?_)
            clear hK K
            refine h_one 9 (by kernel_rfl) rfl (by kernel_rfl) ?_
            intro K hK
            go_simp
            refine (take_any F.b _ (takeR F.a rs) _ (HE.out.non HGX.out) HRX.out).mono ?_
            rintro e y2 ⟨rfl, hR, hgt⟩
            have HSX := Lib.hid (cells5_keep HSX.out hgt (by omega))
            have HXX := Lib.hid (HXX.out.keep hgt (by omega))
            have HZX := Lib.hid (blockS HZX.out hgt (by omega))
            have HGX : Hid (Chg Non w y2) := Lib.hid (HGX.out.then_new hgt (fun x e => by omega))
            have HRX := Lib.hid hR
            clear hR hgt
            refine hK.out _ _ HSX.out (fun _ => ?_)
            clear hK K
            refine h_one 14 (by kernel_rfl) rfl (by kernel_rfl) ?_
            intro K hK
            go_simp
            refine (take_any F.c _ (takeR F.b (takeR F.a rs)) _ (HE.out.non HGX.out) HRX.out).mono ?_
            rintro e y3 ⟨rfl, hR, hgt⟩
            have HSX := Lib.hid (cells5_keep HSX.out hgt (by omega))
            have HXX := Lib.hid (HXX.out.keep hgt (by omega))
            have HZX := Lib.hid (blockS HZX.out hgt (by omega))
            have HGX : Hid (Chg Non w y3) := Lib.hid (HGX.out.then_new hgt (fun x e => by omega))
            have HRX := Lib.hid hR
            clear hR hgt
            refine hK.out _ _ HSX.out (fun _ => ?_)
            clear hK K
            obtain ⟨va, hva⟩ : ∃ v, takeV F.a rs = v := ⟨_, rfl⟩
            obtain ⟨vb, hvb⟩ : ∃ v, takeV F.b (takeR F.a rs) = v := ⟨_, rfl⟩
            obtain ⟨vc, hvc⟩ : ∃ v, takeV F.c (takeR F.b (takeR F.a rs)) = v := ⟨_, rfl⟩
            have ba := takeV_bd F.a rs
            have bb := takeV_bd F.b (takeR F.a rs)
            have bc := takeV_bd F.c (takeR F.b (takeR F.a rs))
            rw [hva] at ba ⊢
            rw [hvb] at bb ⊢
            rw [hvc] at bc ⊢
            have HV : Hid (takeV F.a rs = va ∧ takeV F.b (takeR F.a rs) = vb ∧ takeV F.c (takeR F.b (takeR F.a rs)) = vc) := Lib.hid ⟨hva, hvb, hvc⟩
            clear hva hvb hvc
            refine h_pure 15 (some 10) (.int .i64 va) rfl (by kernel_rfl) (by kernel_rfl) (by kernel_rfl) (by kernel_rfl) (fun _ _ _ h => h) (by kernel_rfl) (fun W hW => by go_simp) HSX.out ?_
            simp only [Act.put, List.setIfInBounds_toArray, List.set_cons_zero, List.set_cons_succ]
            refine h_pure 16 (some 11) (.int .i64 vb) rfl (by kernel_rfl) (by kernel_rfl) (by kernel_rfl) (by kernel_rfl) (fun _ _ _ h => h) (by kernel_rfl) (fun W hW => by go_simp) HSX.out ?_
            simp only [Act.put, List.setIfInBounds_toArray, List.set_cons_zero, List.set_cons_succ]
            refine h_pure 17 (some 12) (.int .i64 vc) rfl (by kernel_rfl) (by kernel_rfl) (by kernel_rfl) (by kernel_rfl) (fun _ _ _ h => h) (by kernel_rfl) (fun W hW => by go_simp) HSX.out ?_
            simp only [Act.put, List.setIfInBounds_toArray, List.set_cons_zero, List.set_cons_succ]
            refine wpAnyH_done (by kernel_rfl) ?_ _
            obtain ⟨⟨xz, x0, x1, x2, x3, x4⟩, xf⟩ := HXX.out.all
            have xf4 := xf 4
            obtain ⟨dz, d0, d1, d2, d3, d4⟩ := HSX.out
            go_wp2_with fail
            refine (take_any (decide (0 < F.n)) _ (takeR F.c (takeR F.b (takeR F.a rs))) _ (HE.out.non HGX.out) HRX.out).mono ?_
            rintro e y4 ⟨rfl, hR, hgt⟩
            obtain ⟨vn, hvn⟩ : ∃ v, takeV (decide (0 < F.n)) (takeR F.c (takeR F.b (takeR F.a rs))) = v := ⟨_, rfl⟩
            have bn := takeV_bd (decide (0 < F.n)) (takeR F.c (takeR F.b (takeR F.a rs)))
            rw [hvn] at bn ⊢
            have HVN := Lib.hid hvn
            clear hvn hR x0 x1 x2 x3 x4 xf xf4 d0 d1 d2 d3 d4 dz xz
            have HXX := Lib.hid (HXX.out.keep hgt (by omega))
            have HZX := Lib.hid (blockS HZX.out hgt (by omega))
            have HGX : Hid (Chg Non w y4) := Lib.hid (HGX.out.then_new hgt (fun x e => by omega))
            clear hgt
            obtain ⟨⟨xz, x0, x1, x2, x3, x4⟩, xf⟩ := HXX.out.all
            have xf4 := xf 4
            have xf1 := xf 1
            have xf2 := xf 2
            have xf3 := xf 3
            clear xf
            obtain ⟨M, hM⟩ : ∃ M, max va (max vb vc) = M := ⟨_, rfl⟩
            obtain ⟨N, hN⟩ : ∃ N, min va (min vb vc) = N := ⟨_, rfl⟩
            have HMN := Lib.hid (And.intro hM hN)
            have hmx : ∀ W : World, (Builtin.max_ #[3, 3, 3] 3 #[.int .i64 va, .int .i64 vb, .int .i64 vc]).run Tryz.prog W = .ok (.int .i64 M) W := fun W => by rw [← hM]; exact max3 _ _ _ _ _ _
            have hmn : ∀ W : World, (Builtin.min_ #[3, 3, 3] 3 #[.int .i64 va, .int .i64 vb, .int .i64 vc]).run Tryz.prog W = .ok (.int .i64 N) W := fun W => by rw [← hN]; exact min3 _ _ _ _ _ _
            have hva : 255 < M ∨ N < 0 ∨ (va.toNat : Int) = va ∧ (vb.toNat : Int) = vb ∧ (vc.toNat : Int) = vc ∧ va ≤ 255 ∧ vb ≤ 255 ∧ vc ≤ 255 ∧ 0 ≤ va ∧ 0 ≤ vb ∧ 0 ≤ vc := by omega
            clear hM hN
            have HPK := Lib.hid (parseK_val k w0 rs s F va vb vc vn M N HF.out HV.out HVN.out HMN.out)
            have HPR : Hid (∀ r, r = parseK k (w0 :: rs) s → ParseRel s r) := Lib.hid (fun r hr => .inr ⟨k, by omega, by omega, by rw [HW.out, HF.out]; show F.name = w0; simpa using HN.out, by rw [HW.out]; exact hr⟩)
            by_cases h255 : 255 < M
            · have g1 : decide (M > 255) = true := by simp; omega
              clear hva
              go_wp2_with (first
                | (refine sel none (.store 38 (.tmp 2) (.tmp 85)) ?_
                   refine wpList_store_rowA rfl 38 (.tmp 2) (.tmp 85) rfl w.heap.size #[.int .u8 0, .int .u8 0, .int .u8 0, .int .u8 0, .int .i64 0] rfl rfl 38 _ (blockS HZX.out (set_at _ _ _ _) (by omega)) info_ins rfl (by simp [Value.oneCell']) ?_
                   intro W hgW hbW
                   have HBW := Lib.hid hbW
                   have HGW := Lib.hid hgW
                   clear hbW hgW))
              exact bodyPost_ret (results_ct Tryz.results64 _ _ w.heap.size 38 _ (0, 0) _ (.int .i64 190) rfl rfl HBW.out Tryz.underlying38 rfl info_ins) rfl ⟨⟨none, HPR.out _ (by rw [HPK.out, if_pos (.inl h255)]), rfl⟩, (HGX.out.then_new (set_at _ _ _ _) (fun x e => by omega)).then_new HGW.out (fun x e => by omega)⟩
            · have g1 : decide (M > 255) = false := by simp; omega
              by_cases hneg : N < 0
              · have g2 : decide (N < 0) = true := by simp; omega
                clear hva
                go_wp2_with (first
                  | (refine sel none (.store 38 (.tmp 2) (.tmp 85)) ?_
                     refine wpList_store_rowA rfl 38 (.tmp 2) (.tmp 85) rfl w.heap.size #[.int .u8 0, .int .u8 0, .int .u8 0, .int .u8 0, .int .i64 0] rfl rfl 38 _ (blockS HZX.out (set_at _ _ _ _) (by omega)) info_ins rfl (by simp [Value.oneCell']) ?_
                     intro W hgW hbW
                     have HBW := Lib.hid hbW
                     have HGW := Lib.hid hgW
                     clear hbW hgW))
                exact bodyPost_ret (results_ct Tryz.results64 _ _ w.heap.size 38 _ (0, 0) _ (.int .i64 190) rfl rfl HBW.out Tryz.underlying38 rfl info_ins) rfl ⟨⟨none, HPR.out _ (by rw [HPK.out, if_pos (.inr hneg)]), rfl⟩, (HGX.out.then_new (set_at _ _ _ _) (fun x e => by omega)).then_new HGW.out (fun x e => by omega)⟩
              · have g2 : decide (N < 0) = false := by simp; omega
                obtain ⟨na, rfl⟩ : ∃ na : Nat, va = na := ⟨va.toNat, by omega⟩
                obtain ⟨nb, rfl⟩ : ∃ na : Nat, vb = na := ⟨vb.toNat, by omega⟩
                obtain ⟨nc, rfl⟩ : ∃ na : Nat, vc = na := ⟨vc.toNat, by omega⟩
                have ha0 : (na : Int) < 256 := by omega
                have hb0 : (nb : Int) < 256 := by omega
                have hc00 : (nc : Int) < 256 := by omega
                clear hva
                have HPK2 := Lib.hid (HPK.out.trans (if_neg (by omega)))
                simp only [Int.toNat_natCast] at HPK2
                have HTX := Lib.hid (fun w hE => Text_any ⟨k, na, nb, nc, vn⟩ w hE)
                go_wp2_with fail
                have HG4 := Lib.hid (set4_at y4 (wr.heap.size + 1) (.int .i64 vn) (.int .u8 na) (.int .u8 nb) (.int .u8 nc))
                refine (HTX.out _ (HE.out.non (HGX.out.then_new HG4.out (fun x e => by omega)))).mono ?_
                rintro e y5 ⟨rfl, hg5⟩
                have HX5 := Lib.hid (blockN hg5 (HXX.out.set4 (.int .i64 vn) (.int .u8 na) (.int .u8 nb) (.int .u8 nc)))
                have HZ5 := Lib.hid (blockN hg5 (blockS HZX.out HG4.out (by omega)))
                have HG5 : Hid (Chg Non w y5) := Lib.hid ((HGX.out.then_new HG4.out (fun x e => by omega)).then_non hg5)
                clear hg5 x0 x1 x2 x3 x4 xf1 xf2 xf3 xf4 xz
                obtain ⟨⟨xz, x0, x1, x2, x3, x4⟩, _⟩ := (Blk5.mk HX5.out).all
                obtain ⟨tx, htx⟩ : ∃ tx, textL ⟨k, na, nb, nc, vn⟩ = tx := ⟨_, rfl⟩
                rw [htx] at HPK2 ⊢
                clear htx HTX
                rw [mkStr_eq]
                cases heq : (tx == s) with
                | false =>
                  have HQ := Lib.hid heq
                  go_wp2_with (first
                    | (refine sel none (.store 38 (.tmp 2) (.tmp 85)) ?_
                       refine wpList_store_rowA rfl 38 (.tmp 2) (.tmp 85) rfl w.heap.size #[.int .u8 0, .int .u8 0, .int .u8 0, .int .u8 0, .int .i64 0] rfl rfl 38 _ (HZ5.out) info_ins rfl (by simp [Value.oneCell']) ?_
                       intro W hgW hbW
                       have HBW := Lib.hid hbW
                       have HGW := Lib.hid hgW
                       clear hbW hgW))
                  exact bodyPost_ret (results_ct Tryz.results64 _ _ w.heap.size 38 _ (0, 0) _ (.int .i64 190) rfl rfl HBW.out Tryz.underlying38 rfl info_ins) rfl ⟨⟨none, HPR.out _ (by rw [HPK2.out, if_neg (fun e => by have := HQ.out; rw [e] at this; simp at this)]), rfl⟩, (HG5.out).then_new HGW.out (fun x e => by omega)⟩
                | true =>
                  have HQ := Lib.hid heq
                  go_wp2_with (first
                    | (refine sel none (.store 38 (.tmp 2) (.tmp 83)) ?_
                       refine wpList_store_rowA rfl 38 (.tmp 2) (.tmp 83) rfl w.heap.size #[.int .u8 k, .int .u8 na, .int .u8 nb, .int .u8 nc, .int .i64 vn] rfl rfl 38 _ (HZ5.out) info_ins rfl (by simp [Value.oneCell']) ?_
                       intro W hgW hbW
                       have HBW := Lib.hid hbW
                       have HGW := Lib.hid hgW
                       clear hbW hgW))
                  exact bodyPost_ret (results_ct Tryz.results64 _ _ w.heap.size 38 _ (0, 0) _ (.int .i64 0) rfl rfl HBW.out Tryz.underlying38 rfl info_ins) rfl ⟨⟨some ⟨k, na, nb, nc, vn⟩, HPR.out _ (by rw [HPK2.out, if_pos (by have := HQ.out; simpa using this)]), rfl⟩, (HG5.out).then_new HGW.out (fun x e => by omega)⟩
    · have hge : decide ((k : Int) < 22) = false := by simp; omega
      have HZX := Lib.hid (blockN HGr.out HZ.out)
      clear HBr
      go_wp2_with (first
        | (refine sel none (.store 38 (.tmp 2) (.tmp 85)) ?_
           refine wpList_store_rowA rfl 38 (.tmp 2) (.tmp 85) rfl w.heap.size #[.int .u8 0, .int .u8 0, .int .u8 0, .int .u8 0, .int .i64 0] rfl rfl 38 _ HZX.out info_ins rfl (by simp [Value.oneCell']) ?_
           intro W hgW hbW
           have HBW := Lib.hid hbW
           have HGW := Lib.hid hgW
           clear hbW hgW))
      exact bodyPost_ret (results_ct Tryz.results64 _ _ w.heap.size 38 _ (0, 0) _ (.int .i64 190) rfl rfl HBW.out Tryz.underlying38 rfl info_ins) rfl ⟨⟨none, .inl ⟨rfl, fun j h1 h2 => by rw [HW.out]; exact HNo.out j h1 (by omega)⟩, rfl⟩, (HG.out.then_non HGr.out).then_new HGW.out (fun x e => by omega)⟩
end Go.Proofs.YtpcmnphohneddaaGreatDoor
