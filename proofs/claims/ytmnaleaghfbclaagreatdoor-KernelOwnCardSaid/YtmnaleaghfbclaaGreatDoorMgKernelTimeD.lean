/- KernelTime, part 4 of 28: contracts of the functions that it reaches, and the laws that they need, merged and shortened (from my texts XIsa9, XIsaC, XTypes, XBts, XIsa10, XIsaD, XIsa11, XIsa12). -/
import Derived.Test.YtmnaleaghfbclaaGreatDoorMgKernelTimeA
import Derived.Test.YtmnaleaghfbclaaGreatDoorMgKernelTimeC
import Derived.WalkLawsBesides
import Derived.Test.YtmnaleaghfbclaaGreatDoorRows
import Derived.Deep.AppendLies
import Derived.Deep.QuietTactic
namespace Go.Proofs.YtmnaleaghfbclaaGreatDoor
set_option linter.unusedVariables false
set_option linter.unusedSimpArgs false
set_option maxHeartbeats 8000000
section
open Go.RowKit
theorem split_ok (l : List UInt8) (w : World) (hE : Env w) (hl : l.length < 1000000) :
  Calls Tryz.prog 113 #[.string ⟨l.toArray⟩, .string ⟨#[32]⟩] w fun e w' => e = .returned (.slice (some ⟨w.heap.size, 0, none⟩) (splitSp l).length (splitSp l).length) ∧ w' = w.alloc (.cells ((splitSp l).map mkStr).toArray 9) := by
 obtain ⟨m, hm⟩ := hE.max
 have h1 : 1 ≤ (⟨#[32]⟩ : ByteArray).size := by decide
 have hs : (⟨l.toArray⟩ : ByteArray).size = l.length := by simp [ByteArray.size]
 have hd := Lib.splitB_data ⟨#[32]⟩ 0 (Lib.countB ⟨l.toArray⟩ ⟨#[32]⟩) ⟨l.toArray⟩
 have hk : Lib.splitK [32] 0 (Lib.countB ⟨l.toArray⟩ ⟨#[32]⟩) l = splitSp l := by rw [← split_eq]; rfl
 have hd2 : (Lib.splitB ⟨#[32]⟩ 0 (Lib.countB ⟨l.toArray⟩ ⟨#[32]⟩) ⟨l.toArray⟩).map (·.data.toList) = splitSp l := by rw [← hk]; simpa using hd
 have hn := Lib.splitB_all ⟨#[32]⟩ h1 0 _ ⟨l.toArray⟩ rfl
 have hlen : (splitSp l).length = Lib.countB ⟨l.toArray⟩ ⟨#[32]⟩ + 1 := by rw [← hd2, List.length_map, hn]
 have hv : (splitSp l).map mkStr = (Lib.splitB ⟨#[32]⟩ 0 (Lib.countB ⟨l.toArray⟩ ⟨#[32]⟩) ⟨l.toArray⟩).map Value.string := by
  rw [← hd2, List.map_map]
  apply List.map_congr_left
  intro x _
  simp [mkStr]
 rw [hlen, hv]
 exact Tryz.strings_Split ⟨l.toArray⟩ ⟨#[32]⟩ m w (by omega) hm h1
theorem splitSp_len (s : List UInt8) : (splitSp s).length ≤ s.length + 1 ∧ ∀ x ∈ splitSp s, x.length ≤ s.length := by
 induction s with
 | nil => simp [splitSp]
 | cons c l ih =>
  obtain ⟨h1, h2⟩ := ih
  unfold splitSp
  split
  ·refine ⟨by simp; omega, fun x hx => ?_⟩
   rw [List.mem_cons] at hx
   rcases hx with rfl | hx
   ·simp
   ·have := h2 x hx
    simp; omega
  ·obtain ⟨w, r, hw⟩ := List.exists_cons_of_ne_nil (splitSp_ne l)
   rw [hw] at h1 h2 ⊢
   refine ⟨by simp at h1 ⊢; omega, fun x hx => ?_⟩
   simp only [List.mem_cons] at hx
   rcases hx with rfl | hx
   ·have := h2 w (by simp)
    simp; omega
   ·have := h2 x (by simp [hx])
    simp; omega
def RetP (s : List UInt8) (e : Ending) : Prop :=
 ∃ r, ParseRel s r ∧ e = .returned (match r with | some x => .tuple #[.agg (insC x), .int .i64 0] | none => .tuple #[.agg (insC Ins.zero), .int .i64 190])
theorem blk0 (w : World) (o o' : Obj) : ((w.alloc o).alloc o').heap[w.heap.size]? = some o := by
 rw [Below.heap_alloc _ _ _ (by simp), heap_alloc_new]
structure Blk5 (W : World) (b : Nat) (t : TypeId) (v0 v1 v2 v3 v4 : Value) : Prop where
 out : W.heap[b]? = some (.cells #[v0, v1, v2, v3, v4] t (0, 0))
theorem Blk5.keep {S : Nat → Prop} {W W' : World} {b : Nat} {t : TypeId} {v0 v1 v2 v3 v4 : Value} (h : Blk5 W b t v0 v1 v2 v3 v4) (hg : Chg S W W') (hn : ¬ S b) : Blk5 W' b t v0 v1 v2 v3 v4 :=
 ⟨(hg.block b (Array.getElem?_eq_some_iff.1 h.out).1 hn).trans h.out⟩
theorem Blk5.all {W : World} {b : Nat} {t : TypeId} {v0 v1 v2 v3 v4 : Value} (h : Blk5 W b t v0 v1 v2 v3 v4) :
  Cells5 W b v0 v1 v2 v3 v4 ∧ ∀ i, W.frozen? ⟨b, i, none⟩ = false := by
 obtain ⟨h⟩ := h
 exact ⟨⟨(Array.getElem?_eq_some_iff.1 h).1, row_cell h rfl, row_cell h rfl, row_cell h rfl, row_cell h rfl, row_cell h rfl⟩, fun i => frozen_of_row _ _ _ _ _ h⟩
theorem cells5_keep {S : Nat → Prop} {w w' : World} {b : Nat} {v0 v1 v2 v3 v4 : Value} (h : Cells5 w b v0 v1 v2 v3 v4) (hg : Chg S w w') (hn : ¬ S b) : Cells5 w' b v0 v1 v2 v3 v4 := by
 obtain ⟨hz, c0, c1, c2, c3, c4⟩ := h
 exact ⟨Nat.lt_of_lt_of_le hz hg.size, hg.cell_some c0 hn, hg.cell_some c1 hn, hg.cell_some c2 hn, hg.cell_some c3 hn, hg.cell_some c4 hn⟩
theorem blockS {S : Nat → Prop} {w W : World} {b : Nat} {x : Obj} (h : w.heap[b]? = some x) (hg : Chg S w W) (hn : ¬ S b) : W.heap[b]? = some x :=
 (hg.block b (Array.getElem?_eq_some_iff.1 h).1 hn).trans h
theorem p_chg (wr : World) (nq : Nat) (o o' o'' : Obj) : Chg Non wr ((((wr.alloc o).drewN nq).alloc o').alloc o'') := ((((Chg.refl Non _).alloc _).drewN _).alloc _).alloc _
theorem p_heap (wr : World) (nq : Nat) (o o' o'' : Obj) : ((((wr.alloc o).drewN nq).alloc o').alloc o'').heap[wr.heap.size]? = some o ∧ ((((wr.alloc o).drewN nq).alloc o').alloc o'').heap[wr.heap.size + 1]? = some o' ∧ ((((wr.alloc o).drewN nq).alloc o').alloc o'').heap[wr.heap.size + 1 + 1]? = some o'' := by
 refine ⟨?_, ?_, ?_⟩
 ·rw [Below.heap_alloc _ _ _ (by simp; omega), Below.heap_alloc _ _ _ (by simp)]
  exact heap_alloc_new _ _
 ·rw [Below.heap_alloc _ _ _ (by simp), show wr.heap.size + 1 = ((wr.alloc o).drewN nq).heap.size by simp, heap_alloc_new]
 ·rw [show wr.heap.size + 1 + 1 = (((wr.alloc o).drewN nq).alloc o').heap.size by simp, heap_alloc_new]
theorem rd_tail0 {wr : World} {b : Nat} {w0 : List UInt8} {rs : List (List UInt8)} {t : TypeId} {A : Option Addr} (h : wr.heap[b]? = some (.cells (mkStr w0 :: rs.map mkStr).toArray t (0, 0))) (hl : rs.length = 0) : RdS wr A rs := by
 have := List.eq_nil_of_length_eq_zero hl
 subst this
 exact fun i x hx => by simp at hx
theorem rd_tail1 {wr : World} {b : Nat} {w0 : List UInt8} {rs : List (List UInt8)} {t : TypeId} {m : Nat} (h : wr.heap[b]? = some (.cells (mkStr w0 :: rs.map mkStr).toArray t (0, 0))) (hl : rs.length = m) : RdS wr (some ⟨b, 1, none⟩) rs := by
 intro i x hx
 refine ⟨b, 1, rfl, row_cell h ?_⟩
 rw [Nat.add_comm 1 i]
 simp [hx]
theorem rd_ad {wr : World} {b k : Nat} {x : Obj} (h : wr.heap[b]? = some x) : ∀ b' o', some (⟨b, k, none⟩ : Addr) = some ⟨b', o', none⟩ → b' < wr.heap.size := by
 intro b' o' e
 injection e with e
 injection e with e1 e2
 subst e1
 exact (Array.getElem?_eq_some_iff.1 h).1
theorem max3 {P : Program} (ts : Array TypeId) (t : TypeId) (x y z : Int) (w : World) : (Builtin.max_ ts t #[.int .i64 x, .int .i64 y, .int .i64 z]).run P w = .ok (.int .i64 (max x (max y z))) w := by
 rw [run_max_int3]
 congr 2
 split <;> split <;> omega
theorem min3 {P : Program} (ts : Array TypeId) (t : TypeId) (x y z : Int) (w : World) : (Builtin.min_ ts t #[.int .i64 x, .int .i64 y, .int .i64 z]).run P w = .ok (.int .i64 (min x (min y z))) w := by
 rw [run_min_int3]
 congr 2
 split <;> split <;> omega
theorem mkStr_eq (l : List UInt8) : mkStr l = .string ⟨l.toArray⟩ := rfl
theorem set_at (w : World) (b i : Nat) (v : Value) : Chg (fun k => k = b) w (w.setCell ⟨b, i, none⟩ v) := (Chg.refl (fun k => k = b) w).setCell (p := ⟨b, i, none⟩) (.inl rfl) v
theorem set4_at (w : World) (b : Nat) (v4 v1 v2 v3 : Value) : Chg (fun k => k = b) w ((((w.setCell ⟨b, 4, none⟩ v4).setCell ⟨b, 1, none⟩ v1).setCell ⟨b, 2, none⟩ v2).setCell ⟨b, 3, none⟩ v3) :=
 ((((Chg.refl (fun k => k = b) w).setCell (p := ⟨b, 4, none⟩) (.inl rfl) v4).setCell (p := ⟨b, 1, none⟩) (.inl rfl) v1).setCell (p := ⟨b, 2, none⟩) (.inl rfl) v2).setCell (p := ⟨b, 3, none⟩) (.inl rfl) v3
theorem heap_setCellI {w : World} {g i : Nat} {cs : Array Value} {t : TypeId} (u : Value) (h : w.heap[g]? = some (.cells cs t (0, 0))) : (w.setCell ⟨g, i, none⟩ u).heap[g]? = some (.cells (cs.setIfInBounds i u) t (0, 0)) := by
 have hlt := (Array.getElem?_eq_some_iff.1 h).1
 have h' : w.heap[g] = .cells cs t (0, 0) := by simpa [Array.getElem?_eq_getElem hlt] using h
 show (w.heap.modify g _)[g]? = _
 rw [Array.getElem?_eq_getElem (by simpa using hlt), Array.getElem_modify_self, h']
 rfl
theorem Blk5.set4 {W : World} {b : Nat} {t : TypeId} {v0 v1 v2 v3 v4 : Value} (h : Blk5 W b t v0 v1 v2 v3 v4) (u4 u1 u2 u3 : Value) :
  ((((W.setCell ⟨b, 4, none⟩ u4).setCell ⟨b, 1, none⟩ u1).setCell ⟨b, 2, none⟩ u2).setCell ⟨b, 3, none⟩ u3).heap[b]? = some (.cells #[v0, u1, u2, u3, u4] t (0, 0)) :=
 heap_setCellI u3 (heap_setCellI u2 (heap_setCellI u1 (heap_setCellI u4 h.out)))
theorem parseK_val (k : Nat) (w0 : List UInt8) (rs : List (List UInt8)) (s : List UInt8) (F : Frm) (va vb vc vn M N : Int) (hF : opAt k = F) (hV : takeV F.a rs = va ∧ takeV F.b (takeR F.a rs) = vb ∧ takeV F.c (takeR F.b (takeR F.a rs)) = vc)
  (hn : takeV (decide (0 < F.n)) (takeR F.c (takeR F.b (takeR F.a rs))) = vn) (hMN : max va (max vb vc) = M ∧ min va (min vb vc) = N) :
  parseK k (w0 :: rs) s = if 255 < M ∨ N < 0 then none else if textL ⟨k, va.toNat, vb.toNat, vc.toNat, vn⟩ = s then some ⟨k, va.toNat, vb.toNat, vc.toNat, vn⟩ else none := by
 obtain ⟨rfl, rfl, rfl⟩ := hV
 obtain ⟨rfl, rfl⟩ := hMN
 subst hF hn
 rfl
theorem p_start (w wr : World) (nq : Nat) (rs : List (List UInt8)) (v0 v1 v2 v3 v4 x0 : Value) (A : Option Addr) (c : Nat) (hg : Chg Non w wr)
  (hR : RdS wr A rs) (hA : ∀ b o, A = some ⟨b, o, none⟩ → b < wr.heap.size) (hc : rs.length ≤ c) (hc2 : c ≤ 140737488355328) (hl : ∀ x ∈ rs, x.length ≤ 1000000) :
  let W := (((wr.alloc (.cells #[v0, v1, v2, v3, v4] 197)).drewN nq).alloc (.cells #[x0, .int .u8 0, .int .u8 0, .int .u8 0, .int .i64 0] 143)).alloc (.cells #[.slice A rs.length c] 100)
  Cells5 W wr.heap.size v0 v1 v2 v3 v4 ∧ Blk5 W (wr.heap.size + 1) 143 x0 (.int .u8 0) (.int .u8 0) (.int .u8 0) (.int .i64 0) ∧ Rst W (wr.heap.size + 1 + 1) rs ∧ Chg Non w W ∧ ∀ (b : Nat) (x : Obj), wr.heap[b]? = some x → W.heap[b]? = some x := by
 intro W
 obtain ⟨h1, h2, h3⟩ := p_heap wr nq (.cells #[v0, v1, v2, v3, v4] 197) (.cells #[x0, .int .u8 0, .int .u8 0, .int .u8 0, .int .i64 0] 143) (.cells #[.slice A rs.length c] 100)
 refine ⟨(Blk5.all ⟨h1⟩).1, ⟨h2⟩, ⟨⟨A, c, h3, hR.non (p_chg _ _ _ _ _), hc, hc2, ?_⟩, hl⟩, hg.then_non (p_chg _ _ _ _ _), fun b x hx => blockN (p_chg _ _ _ _ _) hx⟩
 intro b o e
 have := hA b o e
 omega
def NoName (k : Nat) (w0 : List UInt8) : Prop := ∀ j, 1 ≤ j → j < k → (opAt j).name ≠ w0
set_option maxRecDepth 100000 in
theorem Parse_ok (s : List UInt8) (w : World) (hE : Env w) (hl : s.length < 1000000) :
  Calls Tryz.prog 68 #[.string ⟨s.toArray⟩] w fun e w' => RetP s e ∧ Chg Non w w' := by
 have HS := Lib.hid (fun w hE => split_ok s w hE hl)
 have HE := Lib.hid hE
 have HT := Lib.hid (fun w => table_ok w)
 have HI := Lib.hid (fun n h w => (idx_tbl n h w).2)
 obtain ⟨T, hT⟩ : ∃ T, tblC = T := ⟨_, rfl⟩
 rw [hT] at HT HI
 clear hE hT
 obtain ⟨w0, rs, hws⟩ := List.exists_cons_of_ne_nil (splitSp_ne s)
 have HW := Lib.hid hws
 rw [hws] at HS
 obtain ⟨m, hm⟩ : ∃ m, rs.length = m := ⟨_, rfl⟩
 have hlen : (w0 :: rs).length = m + 1 := by simp [hm]
 have HL := Lib.hid hm
 have hrl : ∀ x ∈ rs, x.length ≤ 1000000 := fun x hx => by have := (splitSp_len s).2 x (by rw [hws]; simp [hx]); omega
 have HRL := Lib.hid hrl
 have hml : m ≤ 1000000 := by have := (splitSp_len s).1; rw [hws] at this; simp at this; omega
 have HML := Lib.hid hml
 rw [hlen] at HS
 clear hws hlen hm hrl hml
 go_enter Tryz.func68, Tryz.ntmps68
 go_wp2_with fail
 refine (HS.out _ (HE.out.non ((Chg.refl Non _).alloc _))).mono ?_
 rintro e w1 ⟨rfl, rfl⟩
 go_wp2_with fail
 refine (HT.out _).mono ?_
 rintro e w2 ⟨rfl, hg⟩
 have HG : Hid (Chg Non w w2) := Lib.hid ((((Chg.refl Non _).alloc _).alloc _).then_non hg)
 have HB := Lib.hid (enc_blk hg)
 have HZ := Lib.hid (blockN hg (blk0 _ _ _))
 clear hg
 go_wp2_with fail
 go_loopw [16] (fun i wr => ∃ k : Nat, k ≤ 22 ∧ i = .int .i64 k ∧ Chg Non w2 wr ∧ NoName k w0) (fun i _ => 22 - (intOf i).toNat)
 case atStart => exact ⟨0, Nat.zero_le _, rfl, Chg.refl _ _, fun j h1 h2 => by omega⟩
 case round =>
  obtain ⟨k, hk, rfl, hg, hno⟩ := hrel
  have HGr := Lib.hid hg
  have HNo := Lib.hid hno
  have HBr := blockN hg HB.out
  clear hg hno
  by_cases hlt : k < 22
  ·by_cases hk0 : k = 0
   ·subst hk0
    have hidx := HI.out 0 hlt
    have hop : opC (opAt 0) = #[.string ⟨#[]⟩, .bool false, .bool false, .bool false, .int .i64 0] := rfl
    rw [hop] at hidx
    have hi0 : ∀ W : World, (Instr.index 198 (.agg T) (.int .i64 0)).run Tryz.prog W = .ok (.agg #[.string ⟨#[]⟩, .bool false, .bool false, .bool false, .int .i64 0]) W := fun W => by simpa using hidx W
    clear hop HBr hidx
    go_wp2_with fail
    go_quiet (fail)
    go_wp2_with fail
    go_roundw
    case rel => exact ⟨1, by omega, by go_num, ((HGr.out.alloc _).drewN _), fun j h1 h2 => by omega⟩
    case measure => simp [intOf]
   ·have hidx := HI.out k hlt
    obtain ⟨F, hF⟩ : ∃ F, opAt k = F := ⟨_, rfl⟩
    rw [hF] at hidx
    have HF := Lib.hid hF
    have hop : opC F = #[.string ⟨F.name.toArray⟩, .bool F.a, .bool F.b, .bool F.c, .int .i64 F.n] := rfl
    rw [hop] at hidx
    clear hop hF
    have hc0 : wr.cell? ⟨w.heap.size + 1, 0, none⟩ = some (.string ⟨w0.toArray⟩) := row_cell HBr rfl
    have hzr : w.heap.size + 1 < wr.heap.size := (Array.getElem?_eq_some_iff.1 HBr).1
    have hkz : ((k : Int) == 0) = false := by simp; omega
    replace HBr := Lib.hid HBr
    cases hname : (F.name == w0) with
    | false =>
     have HN := Lib.hid hname
     go_wp2_with fail
     go_quiet (fail)
     go_wp2_with fail
     go_roundw
     case rel =>
      refine ⟨k + 1, by omega, by go_num, ((HGr.out.alloc _).drewN _), fun j h1 h2 => ?_⟩
      by_cases hjk : j = k
      ·subst hjk
       rw [HF.out]
       have := HN.out
       simpa using this
      ·exact HNo.out j h1 (by omega)
     case measure => simp [intOf]; omega
    | true =>
     have HN := Lib.hid hname
     rcases Nat.eq_zero_or_pos m with hm0 | hm
     ·subst hm0
      go_wp2_with fail
      go_quiet (fail)
      go_wp2_with fail
      have HP := Lib.hid (p_start w wr nq rs (.string ⟨F.name.toArray⟩) (.bool F.a) (.bool F.b) (.bool F.c) (.int .i64 F.n) (.int .u8 k) (some ⟨w.heap.size + 1, 0, none⟩) 0 (HG.out.then_non HGr.out) (rd_tail0 HBr.out HL.out) (rd_ad HBr.out) (by have := HL.out; omega) (by have := HL.out; have := HML.out; omega) HRL.out)
      rw [HL.out] at HP
      have HSX := Lib.hid HP.out.1
      have HXX := Lib.hid HP.out.2.1
      have HRX := Lib.hid HP.out.2.2.1
      have HGX := Lib.hid HP.out.2.2.2.1
      have HZX := Lib.hid (HP.out.2.2.2.2 _ _ (blockN HGr.out HZ.out))
      clear HP
      refine wp_region_held_drew (S := fun W => Cells5 W wr.heap.size (.string ⟨F.name.toArray⟩) (.bool F.a) (.bool F.b) (.bool F.c) (.int .i64 F.n)) (by kernel_rfl) (HSX.out.non ((Chg.refl Non _).drew)) (fun hHeld => ?_)
      have HSX := Lib.hid hHeld
      clear hHeld
      have HXX := Lib.hid (HXX.out.keep ((Chg.refl Non _).drew) (fun e => e))
      have HZX := Lib.hid (blockN ((Chg.refl Non _).drew) HZX.out)
      have HGX := Lib.hid (HGX.out.drew)
      have HRX := Lib.hid (HRX.out.non ((Chg.refl Non _).drew))
      refine hp 0 36 (.func (.func 115) #[] #[.pointer (some ⟨wr.heap.size + 1 + 1, 0, none⟩)]) rfl HSX.out ?_ (he := (fun W hW => by obtain ⟨hz, d0, d1, d2, d3, d4⟩ := hW; go_simp))
      refine hp 1 37 (.pointer (some ⟨wr.heap.size, 1, none⟩)) rfl HSX.out ?_ (he := (fun W hW => by obtain ⟨hz, d0, d1, d2, d3, d4⟩ := hW; go_simp))
      refine hp 2 38 (.pointer (some ⟨wr.heap.size, 1, none⟩)) rfl HSX.out ?_ (he := (fun W hW => by obtain ⟨hz, d0, d1, d2, d3, d4⟩ := hW; go_simp))
      refine hp 3 39 (.bool F.a) rfl HSX.out ?_ (he := (fun W hW => by obtain ⟨hz, d0, d1, d2, d3, d4⟩ := hW; go_simp))
      refine hp 5 41 (.func (.func 115) #[] #[.pointer (some ⟨wr.heap.size + 1 + 1, 0, none⟩)]) rfl HSX.out ?_ (he := (fun W hW => by obtain ⟨hz, d0, d1, d2, d3, d4⟩ := hW; go_simp))
      refine hp 6 42 (.pointer (some ⟨wr.heap.size, 1, none⟩)) rfl HSX.out ?_ (he := (fun W hW => by obtain ⟨hz, d0, d1, d2, d3, d4⟩ := hW; go_simp))
      refine hp 7 43 (.pointer (some ⟨wr.heap.size, 2, none⟩)) rfl HSX.out ?_ (he := (fun W hW => by obtain ⟨hz, d0, d1, d2, d3, d4⟩ := hW; go_simp))
      refine hp 8 44 (.bool F.b) rfl HSX.out ?_ (he := (fun W hW => by obtain ⟨hz, d0, d1, d2, d3, d4⟩ := hW; go_simp))
      refine hp 10 46 (.func (.func 115) #[] #[.pointer (some ⟨wr.heap.size + 1 + 1, 0, none⟩)]) rfl HSX.out ?_ (he := (fun W hW => by obtain ⟨hz, d0, d1, d2, d3, d4⟩ := hW; go_simp))
      refine hp 11 47 (.pointer (some ⟨wr.heap.size, 1, none⟩)) rfl HSX.out ?_ (he := (fun W hW => by obtain ⟨hz, d0, d1, d2, d3, d4⟩ := hW; go_simp))
      refine hp 12 48 (.pointer (some ⟨wr.heap.size, 3, none⟩)) rfl HSX.out ?_ (he := (fun W hW => by obtain ⟨hz, d0, d1, d2, d3, d4⟩ := hW; go_simp))
      refine hp 13 49 (.bool F.c) rfl HSX.out ?_ (he := (fun W hW => by obtain ⟨hz, d0, d1, d2, d3, d4⟩ := hW; go_simp))
      refine h_one 4 (by kernel_rfl) rfl (by kernel_rfl) ?_
      intro K hK
      go_simp
      refine (take_any F.a _ (rs) _ (HE.out.non HGX.out) HRX.out).mono ?_
      rintro e y1 ⟨rfl, hR, hgt⟩
      have HSX := Lib.hid (cells5_keep HSX.out hgt (by omega))
      have HXX := Lib.hid (HXX.out.keep hgt (by omega))
      have HZX := Lib.hid (blockS HZX.out hgt (by omega))
      have HGX : Hid (Chg Non w y1) := Lib.hid (HGX.out.then_new hgt (fun x e => by omega))
      have HRX := Lib.hid hR
      clear hR hgt
      refine hK.out _ _ HSX.out (fun _ => ?_)
      clear hK K
      refine h_one 9 (by kernel_rfl) rfl (by kernel_rfl) ?_
      intro K hK
      go_simp
      refine (take_any F.b _ (takeR F.a rs) _ (HE.out.non HGX.out) HRX.out).mono ?_
      rintro e y2 ⟨rfl, hR, hgt⟩
      have HSX := Lib.hid (cells5_keep HSX.out hgt (by omega))
      have HXX := Lib.hid (HXX.out.keep hgt (by omega))
      have HZX := Lib.hid (blockS HZX.out hgt (by omega))
      have HGX : Hid (Chg Non w y2) := Lib.hid (HGX.out.then_new hgt (fun x e => by omega))
      have HRX := Lib.hid hR
      clear hR hgt
      refine hK.out _ _ HSX.out (fun _ => ?_)
      clear hK K
      refine h_one 14 (by kernel_rfl) rfl (by kernel_rfl) ?_
      intro K hK
      go_simp
      refine (take_any F.c _ (takeR F.b (takeR F.a rs)) _ (HE.out.non HGX.out) HRX.out).mono ?_
      rintro e y3 ⟨rfl, hR, hgt⟩
      have HSX := Lib.hid (cells5_keep HSX.out hgt (by omega))
      have HXX := Lib.hid (HXX.out.keep hgt (by omega))
      have HZX := Lib.hid (blockS HZX.out hgt (by omega))
      have HGX : Hid (Chg Non w y3) := Lib.hid (HGX.out.then_new hgt (fun x e => by omega))
      have HRX := Lib.hid hR
      clear hR hgt
      refine hK.out _ _ HSX.out (fun _ => ?_)
      clear hK K
      obtain ⟨va, hva⟩ : ∃ v, takeV F.a rs = v := ⟨_, rfl⟩
      obtain ⟨vb, hvb⟩ : ∃ v, takeV F.b (takeR F.a rs) = v := ⟨_, rfl⟩
      obtain ⟨vc, hvc⟩ : ∃ v, takeV F.c (takeR F.b (takeR F.a rs)) = v := ⟨_, rfl⟩
      have ba := takeV_bd F.a rs
      have bb := takeV_bd F.b (takeR F.a rs)
      have bc := takeV_bd F.c (takeR F.b (takeR F.a rs))
      rw [hva] at ba ⊢
      rw [hvb] at bb ⊢
      rw [hvc] at bc ⊢
      have HV : Hid (takeV F.a rs = va ∧ takeV F.b (takeR F.a rs) = vb ∧ takeV F.c (takeR F.b (takeR F.a rs)) = vc) := Lib.hid ⟨hva, hvb, hvc⟩
      clear hva hvb hvc
      refine hp 15 10 (.int .i64 va) rfl HSX.out ?_
      refine hp 16 11 (.int .i64 vb) rfl HSX.out ?_
      refine hp 17 12 (.int .i64 vc) rfl HSX.out ?_
      refine wpAnyH_done (by kernel_rfl) ?_ _
      obtain ⟨⟨xz, x0, x1, x2, x3, x4⟩, xf⟩ := HXX.out.all
      have xf4 := xf 4
      obtain ⟨dz, d0, d1, d2, d3, d4⟩ := HSX.out
      go_wp2_with fail
      refine (take_any (decide (0 < F.n)) _ (takeR F.c (takeR F.b (takeR F.a rs))) _ (HE.out.non HGX.out) HRX.out).mono ?_
      rintro e y4 ⟨rfl, hR, hgt⟩
      obtain ⟨vn, hvn⟩ : ∃ v, takeV (decide (0 < F.n)) (takeR F.c (takeR F.b (takeR F.a rs))) = v := ⟨_, rfl⟩
      have bn := takeV_bd (decide (0 < F.n)) (takeR F.c (takeR F.b (takeR F.a rs)))
      rw [hvn] at bn ⊢
      have HVN := Lib.hid hvn
      clear hvn hR x0 x1 x2 x3 x4 xf xf4 d0 d1 d2 d3 d4 dz xz
      have HXX := Lib.hid (HXX.out.keep hgt (by omega))
      have HZX := Lib.hid (blockS HZX.out hgt (by omega))
      have HGX : Hid (Chg Non w y4) := Lib.hid (HGX.out.then_new hgt (fun x e => by omega))
      clear hgt
      obtain ⟨⟨xz, x0, x1, x2, x3, x4⟩, xf⟩ := HXX.out.all
      have xf4 := xf 4
      have xf1 := xf 1
      have xf2 := xf 2
      have xf3 := xf 3
      clear xf
      obtain ⟨M, hM⟩ : ∃ M, max va (max vb vc) = M := ⟨_, rfl⟩
      obtain ⟨N, hN⟩ : ∃ N, min va (min vb vc) = N := ⟨_, rfl⟩
      have HMN := Lib.hid (And.intro hM hN)
      have hmx : ∀ W : World, (Builtin.max_ #[3, 3, 3] 3 #[.int .i64 va, .int .i64 vb, .int .i64 vc]).run Tryz.prog W = .ok (.int .i64 M) W := fun W => by rw [← hM]; exact max3 _ _ _ _ _ _
      have hmn : ∀ W : World, (Builtin.min_ #[3, 3, 3] 3 #[.int .i64 va, .int .i64 vb, .int .i64 vc]).run Tryz.prog W = .ok (.int .i64 N) W := fun W => by rw [← hN]; exact min3 _ _ _ _ _ _
      have hva : 255 < M ∨ N < 0 ∨ (va.toNat : Int) = va ∧ (vb.toNat : Int) = vb ∧ (vc.toNat : Int) = vc ∧ va ≤ 255 ∧ vb ≤ 255 ∧ vc ≤ 255 ∧ 0 ≤ va ∧ 0 ≤ vb ∧ 0 ≤ vc := by omega
      clear hM hN
      have HPK := Lib.hid (parseK_val k w0 rs s F va vb vc vn M N HF.out HV.out HVN.out HMN.out)
      have HPR : Hid (∀ r, r = parseK k (w0 :: rs) s → ParseRel s r) := Lib.hid (fun r hr => .inr ⟨k, by omega, by omega, by rw [HW.out, HF.out]; show F.name = w0; simpa using HN.out, by rw [HW.out]; exact hr⟩)
      by_cases h255 : 255 < M
      ·have g1 : decide (M > 255) = true := by simp; omega
       clear hva
       go_wp2_with (first
         | (refine sel none (.store 143 (.tmp 2) (.tmp 85)) ?_
            refine wpList_store_rowA rfl 143 (.tmp 2) (.tmp 85) rfl w.heap.size #[.int .u8 0, .int .u8 0, .int .u8 0, .int .u8 0, .int .i64 0] rfl rfl 143 _ (blockS HZX.out (set_at _ _ _ _) (by omega)) info_ins rfl (by simp [Value.oneCell']) ?_
            intro W hgW hbW
            have HBW := Lib.hid hbW
            have HGW := Lib.hid hgW
            clear hbW hgW))
       exact bodyPost_ret (results_ct Tryz.results68 _ _ w.heap.size 143 _ (0, 0) _ (.int .i64 190) rfl rfl HBW.out Tryz.underlying143 rfl info_ins) rfl ⟨⟨none, HPR.out _ (by rw [HPK.out, if_pos (.inl h255)]), rfl⟩, (HGX.out.then_new (set_at _ _ _ _) (fun x e => by omega)).then_new HGW.out (fun x e => by omega)⟩
      ·have g1 : decide (M > 255) = false := by simp; omega
       by_cases hneg : N < 0
       ·have g2 : decide (N < 0) = true := by simp; omega
        clear hva
        go_wp2_with (first
          | (refine sel none (.store 143 (.tmp 2) (.tmp 85)) ?_
             refine wpList_store_rowA rfl 143 (.tmp 2) (.tmp 85) rfl w.heap.size #[.int .u8 0, .int .u8 0, .int .u8 0, .int .u8 0, .int .i64 0] rfl rfl 143 _ (blockS HZX.out (set_at _ _ _ _) (by omega)) info_ins rfl (by simp [Value.oneCell']) ?_
             intro W hgW hbW
             have HBW := Lib.hid hbW
             have HGW := Lib.hid hgW
             clear hbW hgW))
        exact bodyPost_ret (results_ct Tryz.results68 _ _ w.heap.size 143 _ (0, 0) _ (.int .i64 190) rfl rfl HBW.out Tryz.underlying143 rfl info_ins) rfl ⟨⟨none, HPR.out _ (by rw [HPK.out, if_pos (.inr hneg)]), rfl⟩, (HGX.out.then_new (set_at _ _ _ _) (fun x e => by omega)).then_new HGW.out (fun x e => by omega)⟩
       ·have g2 : decide (N < 0) = false := by simp; omega
        obtain ⟨na, rfl⟩ : ∃ na : Nat, va = na := ⟨va.toNat, by omega⟩
        obtain ⟨nb, rfl⟩ : ∃ na : Nat, vb = na := ⟨vb.toNat, by omega⟩
        obtain ⟨nc, rfl⟩ : ∃ na : Nat, vc = na := ⟨vc.toNat, by omega⟩
        have ha0 : (na : Int) < 256 := by omega
        have hb0 : (nb : Int) < 256 := by omega
        have hc00 : (nc : Int) < 256 := by omega
        clear hva
        have HPK2 := Lib.hid (HPK.out.trans (if_neg (by omega)))
        simp only [Int.toNat_natCast] at HPK2
        have HTX := Lib.hid (fun w hE => Text_any ⟨k, na, nb, nc, vn⟩ w hE)
        go_wp2_with fail
        have HG4 := Lib.hid (set4_at y4 (wr.heap.size + 1) (.int .i64 vn) (.int .u8 na) (.int .u8 nb) (.int .u8 nc))
        refine (HTX.out _ (HE.out.non (HGX.out.then_new HG4.out (fun x e => by omega)))).mono ?_
        rintro e y5 ⟨rfl, hg5⟩
        have HX5 := Lib.hid (blockN hg5 (HXX.out.set4 (.int .i64 vn) (.int .u8 na) (.int .u8 nb) (.int .u8 nc)))
        have HZ5 := Lib.hid (blockN hg5 (blockS HZX.out HG4.out (by omega)))
        have HG5 : Hid (Chg Non w y5) := Lib.hid ((HGX.out.then_new HG4.out (fun x e => by omega)).then_non hg5)
        clear hg5 x0 x1 x2 x3 x4 xf1 xf2 xf3 xf4 xz
        obtain ⟨⟨xz, x0, x1, x2, x3, x4⟩, _⟩ := (Blk5.mk HX5.out).all
        obtain ⟨tx, htx⟩ : ∃ tx, textL ⟨k, na, nb, nc, vn⟩ = tx := ⟨_, rfl⟩
        rw [htx] at HPK2 ⊢
        clear htx HTX
        rw [mkStr_eq]
        cases heq : (tx == s) with
        | false =>
         have HQ := Lib.hid heq
         go_wp2_with (first
           | (refine sel none (.store 143 (.tmp 2) (.tmp 85)) ?_
              refine wpList_store_rowA rfl 143 (.tmp 2) (.tmp 85) rfl w.heap.size #[.int .u8 0, .int .u8 0, .int .u8 0, .int .u8 0, .int .i64 0] rfl rfl 143 _ (HZ5.out) info_ins rfl (by simp [Value.oneCell']) ?_
              intro W hgW hbW
              have HBW := Lib.hid hbW
              have HGW := Lib.hid hgW
              clear hbW hgW))
         exact bodyPost_ret (results_ct Tryz.results68 _ _ w.heap.size 143 _ (0, 0) _ (.int .i64 190) rfl rfl HBW.out Tryz.underlying143 rfl info_ins) rfl ⟨⟨none, HPR.out _ (by rw [HPK2.out, if_neg (fun e => by have := HQ.out; rw [e] at this; simp at this)]), rfl⟩, (HG5.out).then_new HGW.out (fun x e => by omega)⟩
        | true =>
         have HQ := Lib.hid heq
         go_wp2_with (first
           | (refine sel none (.store 143 (.tmp 2) (.tmp 83)) ?_
              refine wpList_store_rowA rfl 143 (.tmp 2) (.tmp 83) rfl w.heap.size #[.int .u8 k, .int .u8 na, .int .u8 nb, .int .u8 nc, .int .i64 vn] rfl rfl 143 _ (HZ5.out) info_ins rfl (by simp [Value.oneCell']) ?_
              intro W hgW hbW
              have HBW := Lib.hid hbW
              have HGW := Lib.hid hgW
              clear hbW hgW))
         exact bodyPost_ret (results_ct Tryz.results68 _ _ w.heap.size 143 _ (0, 0) _ (.int .i64 0) rfl rfl HBW.out Tryz.underlying143 rfl info_ins) rfl ⟨⟨some ⟨k, na, nb, nc, vn⟩, HPR.out _ (by rw [HPK2.out, if_pos (by have := HQ.out; simpa using this)]), rfl⟩, (HG5.out).then_new HGW.out (fun x e => by omega)⟩
     ·have hm1 : ¬ m = 0 := by omega
      go_wp2_with fail
      go_quiet (fail)
      go_wp2_with fail
      have HP := Lib.hid (p_start w wr nq rs (.string ⟨F.name.toArray⟩) (.bool F.a) (.bool F.b) (.bool F.c) (.int .i64 F.n) (.int .u8 k) (some ⟨w.heap.size + 1, 1, none⟩) m (HG.out.then_non HGr.out) (rd_tail1 HBr.out HL.out) (rd_ad HBr.out) (by have := HL.out; omega) (by have := HL.out; have := HML.out; omega) HRL.out)
      rw [HL.out] at HP
      have HSX := Lib.hid HP.out.1
      have HXX := Lib.hid HP.out.2.1
      have HRX := Lib.hid HP.out.2.2.1
      have HGX := Lib.hid HP.out.2.2.2.1
      have HZX := Lib.hid (HP.out.2.2.2.2 _ _ (blockN HGr.out HZ.out))
      clear HP
      refine wp_region_held_drew (S := fun W => Cells5 W wr.heap.size (.string ⟨F.name.toArray⟩) (.bool F.a) (.bool F.b) (.bool F.c) (.int .i64 F.n)) (by kernel_rfl) (HSX.out.non ((Chg.refl Non _).drew)) (fun hHeld => ?_)
      have HSX := Lib.hid hHeld
      clear hHeld
      have HXX := Lib.hid (HXX.out.keep ((Chg.refl Non _).drew) (fun e => e))
      have HZX := Lib.hid (blockN ((Chg.refl Non _).drew) HZX.out)
      have HGX := Lib.hid (HGX.out.drew)
      have HRX := Lib.hid (HRX.out.non ((Chg.refl Non _).drew))
      refine hp 0 36 (.func (.func 115) #[] #[.pointer (some ⟨wr.heap.size + 1 + 1, 0, none⟩)]) rfl HSX.out ?_ (he := (fun W hW => by obtain ⟨hz, d0, d1, d2, d3, d4⟩ := hW; go_simp))
      refine hp 1 37 (.pointer (some ⟨wr.heap.size, 1, none⟩)) rfl HSX.out ?_ (he := (fun W hW => by obtain ⟨hz, d0, d1, d2, d3, d4⟩ := hW; go_simp))
      refine hp 2 38 (.pointer (some ⟨wr.heap.size, 1, none⟩)) rfl HSX.out ?_ (he := (fun W hW => by obtain ⟨hz, d0, d1, d2, d3, d4⟩ := hW; go_simp))
      refine hp 3 39 (.bool F.a) rfl HSX.out ?_ (he := (fun W hW => by obtain ⟨hz, d0, d1, d2, d3, d4⟩ := hW; go_simp))
      refine hp 5 41 (.func (.func 115) #[] #[.pointer (some ⟨wr.heap.size + 1 + 1, 0, none⟩)]) rfl HSX.out ?_ (he := (fun W hW => by obtain ⟨hz, d0, d1, d2, d3, d4⟩ := hW; go_simp))
      refine hp 6 42 (.pointer (some ⟨wr.heap.size, 1, none⟩)) rfl HSX.out ?_ (he := (fun W hW => by obtain ⟨hz, d0, d1, d2, d3, d4⟩ := hW; go_simp))
      refine hp 7 43 (.pointer (some ⟨wr.heap.size, 2, none⟩)) rfl HSX.out ?_ (he := (fun W hW => by obtain ⟨hz, d0, d1, d2, d3, d4⟩ := hW; go_simp))
      refine hp 8 44 (.bool F.b) rfl HSX.out ?_ (he := (fun W hW => by obtain ⟨hz, d0, d1, d2, d3, d4⟩ := hW; go_simp))
      refine hp 10 46 (.func (.func 115) #[] #[.pointer (some ⟨wr.heap.size + 1 + 1, 0, none⟩)]) rfl HSX.out ?_ (he := (fun W hW => by obtain ⟨hz, d0, d1, d2, d3, d4⟩ := hW; go_simp))
      refine hp 11 47 (.pointer (some ⟨wr.heap.size, 1, none⟩)) rfl HSX.out ?_ (he := (fun W hW => by obtain ⟨hz, d0, d1, d2, d3, d4⟩ := hW; go_simp))
      refine hp 12 48 (.pointer (some ⟨wr.heap.size, 3, none⟩)) rfl HSX.out ?_ (he := (fun W hW => by obtain ⟨hz, d0, d1, d2, d3, d4⟩ := hW; go_simp))
      refine hp 13 49 (.bool F.c) rfl HSX.out ?_ (he := (fun W hW => by obtain ⟨hz, d0, d1, d2, d3, d4⟩ := hW; go_simp))
      refine h_one 4 (by kernel_rfl) rfl (by kernel_rfl) ?_
      intro K hK
      go_simp
      refine (take_any F.a _ (rs) _ (HE.out.non HGX.out) HRX.out).mono ?_
      rintro e y1 ⟨rfl, hR, hgt⟩
      have HSX := Lib.hid (cells5_keep HSX.out hgt (by omega))
      have HXX := Lib.hid (HXX.out.keep hgt (by omega))
      have HZX := Lib.hid (blockS HZX.out hgt (by omega))
      have HGX : Hid (Chg Non w y1) := Lib.hid (HGX.out.then_new hgt (fun x e => by omega))
      have HRX := Lib.hid hR
      clear hR hgt
      refine hK.out _ _ HSX.out (fun _ => ?_)
      clear hK K
      refine h_one 9 (by kernel_rfl) rfl (by kernel_rfl) ?_
      intro K hK
      go_simp
      refine (take_any F.b _ (takeR F.a rs) _ (HE.out.non HGX.out) HRX.out).mono ?_
      rintro e y2 ⟨rfl, hR, hgt⟩
      have HSX := Lib.hid (cells5_keep HSX.out hgt (by omega))
      have HXX := Lib.hid (HXX.out.keep hgt (by omega))
      have HZX := Lib.hid (blockS HZX.out hgt (by omega))
      have HGX : Hid (Chg Non w y2) := Lib.hid (HGX.out.then_new hgt (fun x e => by omega))
      have HRX := Lib.hid hR
      clear hR hgt
      refine hK.out _ _ HSX.out (fun _ => ?_)
      clear hK K
      refine h_one 14 (by kernel_rfl) rfl (by kernel_rfl) ?_
      intro K hK
      go_simp
      refine (take_any F.c _ (takeR F.b (takeR F.a rs)) _ (HE.out.non HGX.out) HRX.out).mono ?_
      rintro e y3 ⟨rfl, hR, hgt⟩
      have HSX := Lib.hid (cells5_keep HSX.out hgt (by omega))
      have HXX := Lib.hid (HXX.out.keep hgt (by omega))
      have HZX := Lib.hid (blockS HZX.out hgt (by omega))
      have HGX : Hid (Chg Non w y3) := Lib.hid (HGX.out.then_new hgt (fun x e => by omega))
      have HRX := Lib.hid hR
      clear hR hgt
      refine hK.out _ _ HSX.out (fun _ => ?_)
      clear hK K
      obtain ⟨va, hva⟩ : ∃ v, takeV F.a rs = v := ⟨_, rfl⟩
      obtain ⟨vb, hvb⟩ : ∃ v, takeV F.b (takeR F.a rs) = v := ⟨_, rfl⟩
      obtain ⟨vc, hvc⟩ : ∃ v, takeV F.c (takeR F.b (takeR F.a rs)) = v := ⟨_, rfl⟩
      have ba := takeV_bd F.a rs
      have bb := takeV_bd F.b (takeR F.a rs)
      have bc := takeV_bd F.c (takeR F.b (takeR F.a rs))
      rw [hva] at ba ⊢
      rw [hvb] at bb ⊢
      rw [hvc] at bc ⊢
      have HV : Hid (takeV F.a rs = va ∧ takeV F.b (takeR F.a rs) = vb ∧ takeV F.c (takeR F.b (takeR F.a rs)) = vc) := Lib.hid ⟨hva, hvb, hvc⟩
      clear hva hvb hvc
      refine hp 15 10 (.int .i64 va) rfl HSX.out ?_
      refine hp 16 11 (.int .i64 vb) rfl HSX.out ?_
      refine hp 17 12 (.int .i64 vc) rfl HSX.out ?_
      refine wpAnyH_done (by kernel_rfl) ?_ _
      obtain ⟨⟨xz, x0, x1, x2, x3, x4⟩, xf⟩ := HXX.out.all
      have xf4 := xf 4
      obtain ⟨dz, d0, d1, d2, d3, d4⟩ := HSX.out
      go_wp2_with fail
      refine (take_any (decide (0 < F.n)) _ (takeR F.c (takeR F.b (takeR F.a rs))) _ (HE.out.non HGX.out) HRX.out).mono ?_
      rintro e y4 ⟨rfl, hR, hgt⟩
      obtain ⟨vn, hvn⟩ : ∃ v, takeV (decide (0 < F.n)) (takeR F.c (takeR F.b (takeR F.a rs))) = v := ⟨_, rfl⟩
      have bn := takeV_bd (decide (0 < F.n)) (takeR F.c (takeR F.b (takeR F.a rs)))
      rw [hvn] at bn ⊢
      have HVN := Lib.hid hvn
      clear hvn hR x0 x1 x2 x3 x4 xf xf4 d0 d1 d2 d3 d4 dz xz
      have HXX := Lib.hid (HXX.out.keep hgt (by omega))
      have HZX := Lib.hid (blockS HZX.out hgt (by omega))
      have HGX : Hid (Chg Non w y4) := Lib.hid (HGX.out.then_new hgt (fun x e => by omega))
      clear hgt
      obtain ⟨⟨xz, x0, x1, x2, x3, x4⟩, xf⟩ := HXX.out.all
      have xf4 := xf 4
      have xf1 := xf 1
      have xf2 := xf 2
      have xf3 := xf 3
      clear xf
      obtain ⟨M, hM⟩ : ∃ M, max va (max vb vc) = M := ⟨_, rfl⟩
      obtain ⟨N, hN⟩ : ∃ N, min va (min vb vc) = N := ⟨_, rfl⟩
      have HMN := Lib.hid (And.intro hM hN)
      have hmx : ∀ W : World, (Builtin.max_ #[3, 3, 3] 3 #[.int .i64 va, .int .i64 vb, .int .i64 vc]).run Tryz.prog W = .ok (.int .i64 M) W := fun W => by rw [← hM]; exact max3 _ _ _ _ _ _
      have hmn : ∀ W : World, (Builtin.min_ #[3, 3, 3] 3 #[.int .i64 va, .int .i64 vb, .int .i64 vc]).run Tryz.prog W = .ok (.int .i64 N) W := fun W => by rw [← hN]; exact min3 _ _ _ _ _ _
      have hva : 255 < M ∨ N < 0 ∨ (va.toNat : Int) = va ∧ (vb.toNat : Int) = vb ∧ (vc.toNat : Int) = vc ∧ va ≤ 255 ∧ vb ≤ 255 ∧ vc ≤ 255 ∧ 0 ≤ va ∧ 0 ≤ vb ∧ 0 ≤ vc := by omega
      clear hM hN
      have HPK := Lib.hid (parseK_val k w0 rs s F va vb vc vn M N HF.out HV.out HVN.out HMN.out)
      have HPR : Hid (∀ r, r = parseK k (w0 :: rs) s → ParseRel s r) := Lib.hid (fun r hr => .inr ⟨k, by omega, by omega, by rw [HW.out, HF.out]; show F.name = w0; simpa using HN.out, by rw [HW.out]; exact hr⟩)
      by_cases h255 : 255 < M
      ·have g1 : decide (M > 255) = true := by simp; omega
       clear hva
       go_wp2_with (first
         | (refine sel none (.store 143 (.tmp 2) (.tmp 85)) ?_
            refine wpList_store_rowA rfl 143 (.tmp 2) (.tmp 85) rfl w.heap.size #[.int .u8 0, .int .u8 0, .int .u8 0, .int .u8 0, .int .i64 0] rfl rfl 143 _ (blockS HZX.out (set_at _ _ _ _) (by omega)) info_ins rfl (by simp [Value.oneCell']) ?_
            intro W hgW hbW
            have HBW := Lib.hid hbW
            have HGW := Lib.hid hgW
            clear hbW hgW))
       exact bodyPost_ret (results_ct Tryz.results68 _ _ w.heap.size 143 _ (0, 0) _ (.int .i64 190) rfl rfl HBW.out Tryz.underlying143 rfl info_ins) rfl ⟨⟨none, HPR.out _ (by rw [HPK.out, if_pos (.inl h255)]), rfl⟩, (HGX.out.then_new (set_at _ _ _ _) (fun x e => by omega)).then_new HGW.out (fun x e => by omega)⟩
      ·have g1 : decide (M > 255) = false := by simp; omega
       by_cases hneg : N < 0
       ·have g2 : decide (N < 0) = true := by simp; omega
        clear hva
        go_wp2_with (first
          | (refine sel none (.store 143 (.tmp 2) (.tmp 85)) ?_
             refine wpList_store_rowA rfl 143 (.tmp 2) (.tmp 85) rfl w.heap.size #[.int .u8 0, .int .u8 0, .int .u8 0, .int .u8 0, .int .i64 0] rfl rfl 143 _ (blockS HZX.out (set_at _ _ _ _) (by omega)) info_ins rfl (by simp [Value.oneCell']) ?_
             intro W hgW hbW
             have HBW := Lib.hid hbW
             have HGW := Lib.hid hgW
             clear hbW hgW))
        exact bodyPost_ret (results_ct Tryz.results68 _ _ w.heap.size 143 _ (0, 0) _ (.int .i64 190) rfl rfl HBW.out Tryz.underlying143 rfl info_ins) rfl ⟨⟨none, HPR.out _ (by rw [HPK.out, if_pos (.inr hneg)]), rfl⟩, (HGX.out.then_new (set_at _ _ _ _) (fun x e => by omega)).then_new HGW.out (fun x e => by omega)⟩
       ·have g2 : decide (N < 0) = false := by simp; omega
        obtain ⟨na, rfl⟩ : ∃ na : Nat, va = na := ⟨va.toNat, by omega⟩
        obtain ⟨nb, rfl⟩ : ∃ na : Nat, vb = na := ⟨vb.toNat, by omega⟩
        obtain ⟨nc, rfl⟩ : ∃ na : Nat, vc = na := ⟨vc.toNat, by omega⟩
        have ha0 : (na : Int) < 256 := by omega
        have hb0 : (nb : Int) < 256 := by omega
        have hc00 : (nc : Int) < 256 := by omega
        clear hva
        have HPK2 := Lib.hid (HPK.out.trans (if_neg (by omega)))
        simp only [Int.toNat_natCast] at HPK2
        have HTX := Lib.hid (fun w hE => Text_any ⟨k, na, nb, nc, vn⟩ w hE)
        go_wp2_with fail
        have HG4 := Lib.hid (set4_at y4 (wr.heap.size + 1) (.int .i64 vn) (.int .u8 na) (.int .u8 nb) (.int .u8 nc))
        refine (HTX.out _ (HE.out.non (HGX.out.then_new HG4.out (fun x e => by omega)))).mono ?_
        rintro e y5 ⟨rfl, hg5⟩
        have HX5 := Lib.hid (blockN hg5 (HXX.out.set4 (.int .i64 vn) (.int .u8 na) (.int .u8 nb) (.int .u8 nc)))
        have HZ5 := Lib.hid (blockN hg5 (blockS HZX.out HG4.out (by omega)))
        have HG5 : Hid (Chg Non w y5) := Lib.hid ((HGX.out.then_new HG4.out (fun x e => by omega)).then_non hg5)
        clear hg5 x0 x1 x2 x3 x4 xf1 xf2 xf3 xf4 xz
        obtain ⟨⟨xz, x0, x1, x2, x3, x4⟩, _⟩ := (Blk5.mk HX5.out).all
        obtain ⟨tx, htx⟩ : ∃ tx, textL ⟨k, na, nb, nc, vn⟩ = tx := ⟨_, rfl⟩
        rw [htx] at HPK2 ⊢
        clear htx HTX
        rw [mkStr_eq]
        cases heq : (tx == s) with
        | false =>
         have HQ := Lib.hid heq
         go_wp2_with (first
           | (refine sel none (.store 143 (.tmp 2) (.tmp 85)) ?_
              refine wpList_store_rowA rfl 143 (.tmp 2) (.tmp 85) rfl w.heap.size #[.int .u8 0, .int .u8 0, .int .u8 0, .int .u8 0, .int .i64 0] rfl rfl 143 _ (HZ5.out) info_ins rfl (by simp [Value.oneCell']) ?_
              intro W hgW hbW
              have HBW := Lib.hid hbW
              have HGW := Lib.hid hgW
              clear hbW hgW))
         exact bodyPost_ret (results_ct Tryz.results68 _ _ w.heap.size 143 _ (0, 0) _ (.int .i64 190) rfl rfl HBW.out Tryz.underlying143 rfl info_ins) rfl ⟨⟨none, HPR.out _ (by rw [HPK2.out, if_neg (fun e => by have := HQ.out; rw [e] at this; simp at this)]), rfl⟩, (HG5.out).then_new HGW.out (fun x e => by omega)⟩
        | true =>
         have HQ := Lib.hid heq
         go_wp2_with (first
           | (refine sel none (.store 143 (.tmp 2) (.tmp 83)) ?_
              refine wpList_store_rowA rfl 143 (.tmp 2) (.tmp 83) rfl w.heap.size #[.int .u8 k, .int .u8 na, .int .u8 nb, .int .u8 nc, .int .i64 vn] rfl rfl 143 _ (HZ5.out) info_ins rfl (by simp [Value.oneCell']) ?_
              intro W hgW hbW
              have HBW := Lib.hid hbW
              have HGW := Lib.hid hgW
              clear hbW hgW))
         exact bodyPost_ret (results_ct Tryz.results68 _ _ w.heap.size 143 _ (0, 0) _ (.int .i64 0) rfl rfl HBW.out Tryz.underlying143 rfl info_ins) rfl ⟨⟨some ⟨k, na, nb, nc, vn⟩, HPR.out _ (by rw [HPK2.out, if_pos (by have := HQ.out; simpa using this)]), rfl⟩, (HG5.out).then_new HGW.out (fun x e => by omega)⟩
  ·have hge : decide ((k : Int) < 22) = false := by simp; omega
   have HZX := Lib.hid (blockN HGr.out HZ.out)
   clear HBr
   go_wp2_with (first
     | (refine sel none (.store 143 (.tmp 2) (.tmp 85)) ?_
        refine wpList_store_rowA rfl 143 (.tmp 2) (.tmp 85) rfl w.heap.size #[.int .u8 0, .int .u8 0, .int .u8 0, .int .u8 0, .int .i64 0] rfl rfl 143 _ HZX.out info_ins rfl (by simp [Value.oneCell']) ?_
        intro W hgW hbW
        have HBW := Lib.hid hbW
        have HGW := Lib.hid hgW
        clear hbW hgW))
   exact bodyPost_ret (results_ct Tryz.results68 _ _ w.heap.size 143 _ (0, 0) _ (.int .i64 190) rfl rfl HBW.out Tryz.underlying143 rfl info_ins) rfl ⟨⟨none, .inl ⟨rfl, fun j h1 h2 => by rw [HW.out]; exact HNo.out j h1 (by omega)⟩, rfl⟩, (HG.out.then_non HGr.out).then_new HGW.out (fun x e => by omega)⟩
end
section
def opFind (w : List UInt8) : Option Nat := (List.range 22).find? fun k => decide (1 ≤ k) && ((opAt k).name == w)
theorem opFind_some {w : List UInt8} {k : Nat} (h1 : 1 ≤ k) (h2 : k ≤ 21) (h : (opAt k).name = w) : opFind w = some k := by
 unfold opFind
 cases hf : (List.range 22).find? (fun k => decide (1 ≤ k) && ((opAt k).name == w)) with
 | none =>
  rw [List.find?_eq_none] at hf
  have := hf k (by simp; omega)
  simp [h1, h] at this
 | some j =>
  have hp := List.find?_some hf
  have hm := List.mem_of_find?_eq_some hf
  simp at hp hm
  rw [name_inj j k hp.1 (by omega) h1 h2 (hp.2.trans h.symm)]
theorem opFind_none {w : List UInt8} (h : ∀ k, 1 ≤ k → k ≤ 21 → (opAt k).name ≠ w) : opFind w = none := by
 unfold opFind
 rw [List.find?_eq_none]
 intro k hk
 simp at hk ⊢
 intro h1
 exact h k h1 (by omega)
def parseC (s : List UInt8) : Option Ins := match opFind (splitSp s).head! with | some k => parseK k (splitSp s) s | none => none
theorem parse_rel {s : List UInt8} {r : Option Ins} (h : ParseRel s r) : r = parseC s := by
 unfold parseC
 rcases h with ⟨rfl, hn⟩ | ⟨k, h1, h2, hn, rfl⟩
 ·rw [opFind_none hn]
 ·rw [opFind_some h1 h2 hn]
theorem rel_parse (s : List UInt8) : ParseRel s (parseC s) := by
 unfold parseC
 cases h : opFind (splitSp s).head! with
 | none =>
  refine .inl ⟨rfl, fun k h1 h2 e => ?_⟩
  rw [opFind_some h1 h2 e] at h
  cases h
 | some k =>
  have hp := List.find?_some h
  have hm := List.mem_of_find?_eq_some h
  simp at hp hm
  exact .inr ⟨k, hp.1, by omega, hp.2, rfl⟩
theorem parseC_some {s : List UInt8} {x : Ins} (h : parseC s = some x) : mayB x = true ∧ textL x = s := (parse_spec (rel_parse s)).1 x h
def encB (x : Ins) : List UInt8 := [UInt8.ofNat (encI x).1, UInt8.ofNat (encI x).2.1, UInt8.ofNat (encI x).2.2.1, UInt8.ofNat (encI x).2.2.2]
def codeC : List (List UInt8) → Option (List UInt8)
 | [] => some []
 | l :: r => match parseC l with
  | none => none
  | some x => (codeC r).map (encB x ++ ·)
def codeB (ls : List (List UInt8)) : List UInt8 := (ls.map fun l => match parseC l with | some x => encB x | none => []).flatten
theorem codeB_snoc (ls : List (List UInt8)) (l : List UInt8) (x : Ins) (h : parseC l = some x) : codeB (ls ++ [l]) = codeB ls ++ encB x := by
 simp [codeB, h]
theorem codeC_all (ls : List (List UInt8)) (h : ∀ l ∈ ls, (parseC l).isSome = true) : codeC ls = some (codeB ls) := by
 induction ls with
 | nil => rfl
 | cons l r ih =>
  obtain ⟨x, hx⟩ := Option.isSome_iff_exists.1 (h l (by simp))
  unfold codeC
  rw [hx, ih (fun y hy => h y (by simp [hy]))]
  simp [codeB, hx]
theorem codeC_no (ls : List (List UInt8)) (l : List UInt8) (hl : l ∈ ls) (h : parseC l = none) : codeC ls = none := by
 induction ls with
 | nil => simp at hl
 | cons y r ih =>
  unfold codeC
  rw [List.mem_cons] at hl
  rcases hl with rfl | hl
  ·rw [h]
  ·cases parseC y with
   | none => rfl
   | some x => simp [ih hl]
theorem codeB_len (ls : List (List UInt8)) : (codeB ls).length ≤ 4 * ls.length := by
 induction ls with
 | nil => simp [codeB]
 | cons l r ih =>
  have e : codeB (l :: r) = (match parseC l with | some x => encB x | none => []) ++ codeB r := by simp [codeB]
  rw [e, List.length_append, List.length_cons]
  have : (match parseC l with | some x => encB x | none => []).length ≤ 4 := by split <;> simp [encB]
  omega
end
section
open Go.RowKit
theorem info_u8 : (Tryz.prog.info? 5).map (fun i => (i.zero, i.size, i.bytes)) = some (some (.int .u8 0), 1, 1) := by kernel_rfl
theorem madeCells_one (z : Value) (n : Nat) : madeCells #[z] n = Array.replicate n z := by
 apply Array.ext
 ·simp [madeCells]
 ·intro i h1 h2
  simp [madeCells, Nat.mod_one]
theorem mk_bytes (n : Int) (h0 : 0 ≤ n) (h1 : n ≤ 140737488355328) (W : World) :
  (Instr.makeSlice 50 (.int .i64 n) (.int .i64 n)).run Tryz.prog W = .ok (.slice (some ⟨W.heap.size, 0, none⟩) n.toNat n.toNat) (W.alloc (.cells (Array.replicate n.toNat (.int .u8 0)) 5)) := by
 obtain ⟨i, hi, hz, hs, hb⟩ := info_parts info_u8
 have h := run_make (P := Tryz.prog) W 50 5 i (.int .u8 0) Tryz.underlying50 hi hz .i64 .i64 n n h0 (Int.le_refl _) (by rw [hb]; omega) (by omega)
 rw [h, hs, Nat.mul_one]
 show Result.ok _ (W.alloc (.cells (madeCells #[.int .u8 0] n.toNat) _)) = _
 rw [madeCells_one]
end
section
open Go.RowKit
theorem plain_add (b o k : Nat) : (⟨b, o, none⟩ : Addr).add k = ⟨b, o + k, none⟩ := by
 unfold Addr.add
 split <;> simp_all
def OwnR (B : Nat) (w : World) (v : Value) (l : List UInt8) : Prop := w.ownsRow B 5 1 v l.length (l.map bv)
theorem OwnR.nil (B : Nat) (w : World) : OwnR B w (.slice none 0 0) [] := World.ownsRow_nil _ _ _ _
theorem OwnR.keep {S : Nat → Prop} {B : Nat} {w w' : World} {v : Value} {l : List UInt8} (h : OwnR B w v l) (hg : Chg S w w') (hn : ∀ g, v.ownBlock = some g → ¬ S g) : OwnR B w' v l := by
 refine ⟨h.1, ?_⟩
 rcases h.2 with h0 | ⟨g, cap, cur, rfl, hB, hb, r1⟩
 ·exact .inl h0
 ·exact .inr ⟨g, cap, cur, rfl, hB, (hg.block g (Array.getElem?_eq_some_iff.1 hb).1 (hn g rfl)).trans hb, r1⟩
theorem OwnR.non {B : Nat} {w w' : World} {v : Value} {l : List UInt8} (h : OwnR B w v l) (hg : Chg Non w w') : OwnR B w' v l := h.keep hg fun _ _ e => e
theorem OwnR.ge {B : Nat} {w : World} {v : Value} {l : List UInt8} (h : OwnR B w v l) {g : Nat} (hg : v.ownBlock = some g) : B ≤ g := by
 rcases h.2 with ⟨rfl, _⟩ | ⟨g2, cap, cur, rfl, hB, _⟩
 ·simp [Value.ownBlock] at hg
 ·obtain rfl : g2 = g := by simpa [Value.ownBlock] using hg
  exact hB
theorem OwnR.rd {B : Nat} {w : World} {v : Value} {l : List UInt8} (h : OwnR B w v l) : ∃ A c, v = .slice A l.length c ∧ l.length ≤ c ∧ c ≤ maxLen ∧ Rd w A l := by
 rcases h.2 with ⟨rfl, h0⟩ | ⟨g, cap, cur, rfl, hB, hg, h1, h2, h3, h4⟩
 ·have : l = [] := List.eq_nil_of_length_eq_zero h0
  subst this
  exact ⟨none, 0, rfl, Nat.le_refl _, by simp, fun i x hx => by simp at hx⟩
 ·refine ⟨_, cap, rfl, h1, h2, fun i x hx => ⟨g, 0, rfl, ?_⟩⟩
  have := h.cells (g := g) rfl i (bv x) (by rw [List.getElem?_map, hx]; rfl)
  rw [plain_add] at this
  exact this
set_option maxRecDepth 10000 in
theorem wpList_appR {ops : Array Oper} {rest : List Oper} {o : Oper} {a : Act} {w : World} {Q : Exit → Act → World → Prop} (hgd : o.guard = none) (s x : Operand)
  (ho : o.op = .call { callee := .builtin .append, args := #[s, x], argTypes := #[50, 50] })
  (B : Nat) (v : Value) (l : List UInt8) (hs : a.eval s = v) (hown : OwnR B w v l) (b k c : Nat) (y : List UInt8) (hx : a.eval x = .slice (some ⟨b, k, none⟩) y.length c)
  (hb : ∀ j u, y[j]? = some u → w.cell? ⟨b, k + j, none⟩ = some (bv u)) (hy : y ≠ [])
  (hl : l.length ≤ 1000000) (hly : y.length ≤ 1000000) (hB : B ≤ w.heap.size)
  (h : ∀ v2 w2, OwnR B w2 v2 (l ++ y) → Chg (fun k => v.ownBlock = some k) w w2 → (v2.ownBlock = v.ownBlock ∨ v2.ownBlock = some w.heap.size) → wpList Tryz.prog ops Q rest (a.put o.dst v2) w2) : wpList Tryz.prog ops Q (o :: rest) a w := by
 obtain ⟨i0, hi0, hz0, hs0, hb0⟩ := info_parts info_u8
 have hy0 : 0 < y.length := List.length_pos_iff.2 hy
 refine wpList_append_lies w hgd s x 50 ho B 5 i0 _ 1 1 Tryz.underlying50 hi0 hz0 hs0 hb0 rfl (by omega) v l.length (l.map bv) hs hown ⟨b, k, none⟩ y.length c (y.map bv) hx (by simp) ?_ ?_ hy0 (by unfold maxLen; omega) (by omega) hB _ rfl ?_
 ·intro j u hu
  rw [List.getElem?_map] at hu
  obtain ⟨z, hz, rfl⟩ := Option.map_eq_some_iff.1 hu
  rw [plain_add]
  exact hb j z hz
 ·intro u hu
  obtain ⟨z, _, rfl⟩ := List.mem_map.1 hu
  rfl
 ·intro g cap w2 h2 hgrow hat hlt
  refine h _ _ ?_ ?_ ?_
  ·unfold OwnR
   rw [List.length_append, List.map_append]
   exact h2
  ·exact (Chg.refl _ w).grown hgrow fun g' hg' => .inl hg'
  ·rcases hat with h | h
   ·exact .inl h.symm
   ·exact .inr (by rw [h]; rfl)
end
section
open Go.RowKit
theorem Parse_c (s : List UInt8) (w : World) (hE : Env w) (hl : s.length < 1000000) :
  Calls Tryz.prog 68 #[.string ⟨s.toArray⟩] w fun e w' => e = .returned (match parseC s with | some x => .tuple #[.agg (insC x), .int .i64 0] | none => .tuple #[.agg (insC Ins.zero), .int .i64 190]) ∧ Chg Non w w' :=
 (Parse_ok s w hE hl).mono fun e w' ⟨⟨r, hr, he⟩, hg⟩ => ⟨by rw [he, parse_rel hr] <;> rfl, hg⟩
theorem Parse_yes (s : List UInt8) (x : Ins) (w : World) (hE : Env w) (hl : s.length < 1000000) (h : parseC s = some x) :
  Calls Tryz.prog 68 #[.string ⟨s.toArray⟩] w fun e w' => e = .returned (.tuple #[.agg #[.int .u8 x.op, .int .u8 x.a, .int .u8 x.b, .int .u8 x.c, .int .i64 x.n], .int .i64 0]) ∧ Chg Non w w' :=
 (Parse_c s w hE hl).mono fun e w' ⟨he, hg⟩ => ⟨by rw [he, h]; rfl, hg⟩
theorem Parse_none (s : List UInt8) (w : World) (hE : Env w) (hl : s.length < 1000000) (h : parseC s = none) :
  Calls Tryz.prog 68 #[.string ⟨s.toArray⟩] w fun e w' => e = .returned (.tuple #[.agg #[.int .u8 0, .int .u8 0, .int .u8 0, .int .u8 0, .int .i64 0], .int .i64 190]) ∧ Chg Non w w' :=
 (Parse_c s w hE hl).mono fun e w' ⟨he, hg⟩ => ⟨by rw [he, h]; rfl, hg⟩
def RetC (w : World) (ls : List (List UInt8)) (e : Ending) (w' : World) : Prop :=
 Chg Non w w' ∧ match codeC ls with
 | some l => ∃ A c, e = .returned (.tuple #[.slice A l.length c, .int .i64 0]) ∧ Rd w' A l ∧ l.length ≤ c ∧ c ≤ maxLen
 | none => e = .returned (.tuple #[.slice none 0 0, .int .i64 190])
def RetCO (w : World) (ls : List (List UInt8)) (e : Ending) (w' : World) : Prop :=
 Chg Non w w' ∧ match codeC ls with
 | some l => ∃ v, e = .returned (.tuple #[v, .int .i64 0]) ∧ OwnR w.heap.size w' v l
 | none => e = .returned (.tuple #[.slice none 0 0, .int .i64 190])
def AllOk (ls : List (List UInt8)) : Prop := ∀ l ∈ ls, (parseC l).isSome = true
theorem enc_bytes {x : Ins} (h : mayB x = true) {w : World} {b : Nat} {t : TypeId} (hb : w.heap[b]? = some (.cells (fourC (encI x)) t (0, 0))) :
  ∀ j u, (encB x)[j]? = some u → w.cell? ⟨b, 0 + j, none⟩ = some (bv u) := by
 obtain ⟨h1, h2, h3, h4⟩ := enc_bd h
 intro j u hu
 rw [Nat.zero_add]
 refine row_cell hb ?_
 unfold encB at hu
 unfold fourC
 rcases j with _ | _ | _ | _ | j
 ·simp at hu ⊢; subst hu; simp only [bv, UInt8.toNat_ofNat']; congr 1; omega
 ·simp at hu ⊢; subst hu; simp only [bv, UInt8.toNat_ofNat']; congr 1; omega
 ·simp at hu ⊢; subst hu; simp only [bv, UInt8.toNat_ofNat']; congr 1; omega
 ·simp at hu ⊢; subst hu; simp only [bv, UInt8.toNat_ofNat']; congr 1; omega
 ·simp at hu
set_option maxRecDepth 100000 in
theorem Code_own (A : Option Addr) (c : Nat) (ls : List (List UInt8)) (w : World) (hE : Env w) (hr : RdS w A ls) (hl : ls.length ≤ 1000) (hb : ∀ l ∈ ls, l.length < 1000000) :
  Calls Tryz.prog 38 #[.slice A ls.length c] w fun e w' => RetCO w ls e w' := by
 have HE := Lib.hid hE
 have HR := Lib.hid hr
 have HB := Lib.hid hb
 clear hE hr hb
 go_enter Tryz.func38, Tryz.ntmps38
 go_wp2_with fail
 go_loopw [4, 13] (fun v i wr => ∃ k : Nat, k ≤ ls.length ∧ i = .int .i64 k ∧ Chg Non w wr ∧ OwnR w.heap.size wr v (codeB (ls.take k)) ∧ AllOk (ls.take k)) (fun _ i _ => ls.length - (intOf i).toNat)
 case atStart => exact ⟨0, Nat.zero_le _, rfl, Chg.refl _ _, OwnR.nil _ _, fun l hl => by simp at hl⟩
 case round =>
  obtain ⟨k, hk, rfl, hg, ho, hok⟩ := hrel
  have HG := Lib.hid hg
  have HO := Lib.hid ho
  have HOk := Lib.hid hok
  clear hg ho hok
  by_cases hlt : k < ls.length
  ·obtain ⟨l, hlk⟩ : ∃ l, ls[k]? = some l := ⟨_, List.getElem?_eq_getElem hlt⟩
   have HL := Lib.hid hlk
   have hmem : l ∈ ls := List.mem_of_getElem? hlk
   have HM := Lib.hid hmem
   have hll := HB.out l hmem
   obtain ⟨b, o, rfl, hc⟩ := HR.out k l hlk
   have hcell : wr.cell? ⟨b, o + k, none⟩ = some (.string ⟨l.toArray⟩) := HG.out.cell_some hc (fun e => e)
   clear hc hlk hmem
   cases hp : parseC l with
   | none =>
    have HP := Lib.hid hp
    clear hp
    go_wp2_with fail
    refine (Parse_none l wr (HE.out.non HG.out) hll HP.out).mono ?_
    rintro e w1 ⟨rfl, hg1⟩
    go_wp2_with fail
    go_ret2
    refine ⟨(HG.out.then_non hg1).alloc _, ?_⟩
    rw [codeC_no ls l HM.out HP.out]
    rfl
   | some x =>
    have HP := Lib.hid hp
    clear hp
    go_wp2_with fail
    refine (Parse_yes l x wr (HE.out.non HG.out) hll HP.out).mono ?_
    rintro e w1 ⟨rfl, hg1⟩
    have HG1 := Lib.hid hg1
    clear hg1
    go_wp2_with fail
    refine (Encode_ok x _ (parseC_some HP.out).1).mono ?_
    rintro e w2 ⟨rfl, hg2⟩
    have HG2 : Hid (Chg Non wr w2) := Lib.hid ((HG1.out.alloc _).then_non hg2)
    clear hg2
    obtain ⟨C, hC⟩ : ∃ C, fourC (encI x) = C := ⟨_, rfl⟩
    obtain ⟨p, q, r, s, hCx⟩ : ∃ p q r s : Nat, C = #[.int .u8 p, .int .u8 q, .int .u8 r, .int .u8 s] := ⟨_, _, _, _, hC.symm⟩
    rw [hC, hCx]
    rw [hCx] at hC
    have HCx := Lib.hid hC
    clear hC hCx
    have hcl : (codeB (ls.take k)).length ≤ 1000000 := by have := codeB_len (ls.take k); simp at this; omega
    go_wp2_with (first
      | (refine sel (some 32) (.call _) ?_
         refine wpList_appR rfl (.tmp 30) (.tmp 31) rfl w.heap.size _ (codeB (ls.take k)) rfl (HO.out.non ((HG2.out).alloc _)) w2.heap.size 0 4 (encB x) rfl (enc_bytes (parseC_some HP.out).1 (by rw [HCx.out]; exact heap_alloc_new _ _)) (by simp [encB]) (by omega) (by simp [encB]) (by have h1 := HG.out.size; have h2 := HG2.out.size; simp; omega) ?_
         intro v2 w3 ho3 hg3 hat
         have HO3 := Lib.hid ho3
         have HG3 : Hid (Chg Non w w3) := Lib.hid (((HG.out.then_non HG2.out).alloc _).then_new hg3 (fun x hx => HO.out.ge hx))
         clear ho3 hg3 hat))
    go_roundw
    case rel =>
     refine ⟨k + 1, by omega, by go_num, HG3.out, ?_, ?_⟩
     ·rw [List.take_add_one, HL.out, Option.toList_some, codeB_snoc _ _ _ HP.out]
      exact HO3.out
     ·rw [List.take_add_one, HL.out, Option.toList_some]
      intro y hy
      rw [List.mem_append, List.mem_singleton] at hy
      rcases hy with hy | rfl
      ·exact HOk.out y hy
      ·rw [HP.out]; rfl
    case measure => simp [intOf]; omega
  ·have hkl : k = ls.length := by omega
   have ht : ls.take k = ls := List.take_of_length_le (by omega)
   rw [ht] at HO HOk
   clear ht
   obtain ⟨A', c', rfl, h1, h2, h3⟩ := HO.out.rd
   have H3 := Lib.hid h3
   clear h3
   go_wp2_with fail
   go_ret2
   refine ⟨HG.out, ?_⟩
   rw [codeC_all ls HOk.out]
   exact ⟨_, rfl, HO.out⟩
theorem Code_ok (A : Option Addr) (c : Nat) (ls : List (List UInt8)) (w : World) (hE : Env w) (hr : RdS w A ls) (hl : ls.length ≤ 1000) (hb : ∀ l ∈ ls, l.length < 1000000) :
  Calls Tryz.prog 38 #[.slice A ls.length c] w fun e w' => RetC w ls e w' := (Code_own A c ls w hE hr hl hb).mono fun e w' h => by
 obtain ⟨hg, h⟩ := h
 refine ⟨hg, ?_⟩
 cases hc : codeC ls with
 | none => rw [hc] at h; exact h
 | some l =>
  rw [hc] at h
  obtain ⟨v, rfl, ho⟩ := h
  obtain ⟨A, c, rfl, h1, h2, h3⟩ := ho.rd
  exact ⟨A, c, rfl, h3, h1, h2⟩
end
section

end
section
open Go.RowKit
end
section
open Go.RowKit
theorem al_2_0 (w : World) (a b : Obj) : ((w.alloc a).alloc b).heap[w.heap.size]? = some a := blk0 w a b
theorem al_2_1 (w : World) (a b : Obj) : ((w.alloc a).alloc b).heap[w.heap.size + 1]? = some b := by
 rw [show w.heap.size + 1 = (w.alloc a).heap.size by simp, heap_alloc_new]
theorem al_3_0 (w : World) (a b c : Obj) : (((w.alloc a).alloc b).alloc c).heap[w.heap.size]? = some a := by
 rw [Below.heap_alloc _ _ _ (by simp; omega), al_2_0]
theorem al_3_1 (w : World) (a b c : Obj) : (((w.alloc a).alloc b).alloc c).heap[w.heap.size + 1]? = some b := by
 rw [Below.heap_alloc _ _ _ (by simp), al_2_1]
theorem al_3_2 (w : World) (a b c : Obj) : (((w.alloc a).alloc b).alloc c).heap[w.heap.size + 1 + 1]? = some c := by
 rw [show w.heap.size + 1 + 1 = ((w.alloc a).alloc b).heap.size by simp, heap_alloc_new]
theorem Dec_v (p q r s : Nat) (op a b c : Nat) (n : Int) (w : World) (hb : Four (p, q, r, s)) (hd : decI p q r s = ⟨op, a, b, c, n⟩) (h : mayB ⟨op, a, b, c, n⟩ = true) :
  Calls Tryz.prog 233 #[.agg #[.int .u8 p, .int .u8 q, .int .u8 r, .int .u8 s]] w fun e w' => e = .returned (.tuple #[.agg #[.int .u8 op, .int .u8 a, .int .u8 b, .int .u8 c, .int .i64 n], .int .i64 0]) ∧ Chg Non w w' := by
 have := Decode_ok p q r s w hb.1 hb.2.1 hb.2.2.1 hb.2.2.2 (by rw [hd]; exact h)
 rw [hd] at this
 exact this
theorem Dec_n (p q r s : Nat) (w : World) (hb : Four (p, q, r, s)) (h : mayB (decI p q r s) = false) :
  Calls Tryz.prog 233 #[.agg #[.int .u8 p, .int .u8 q, .int .u8 r, .int .u8 s]] w fun e w' => e = .returned (.tuple #[.agg #[.int .u8 0, .int .u8 0, .int .u8 0, .int .u8 0, .int .i64 0], .int .i64 190]) ∧ Chg Non w w' :=
 Decode_no p q r s w hb.1 hb.2.1 hb.2.2.1 hb.2.2.2 h
end
end Go.Proofs.YtmnaleaghfbclaaGreatDoor
