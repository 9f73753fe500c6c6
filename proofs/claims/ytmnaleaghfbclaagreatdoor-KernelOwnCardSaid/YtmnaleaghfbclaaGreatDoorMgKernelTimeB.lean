/- KernelTime, part 2 of 28: contracts of the functions that it reaches, and the laws that they need, merged and shortened (from my texts XStrs, XIsa4, XIsaEq, XIsa5, XIsa6). -/
import Derived.Test.YtmnaleaghfbclaaGreatDoorMgKernelTimeA
import Derived.Test.YtmnaleaghfbclaaGreatDoorMgKernelTimeShelf
import Derived.Deep.AppendLies
import Derived.Sort.Grow
import Derived.RegionTactic
import Derived.ChangeAlike
import Derived.DeepKeys
import Derived.ChangeSlices
import Derived.Laws.StructEq
import Derived.OpenShut
import Derived.Laws.BitsAllLaws
namespace Go.Proofs.YtmnaleaghfbclaaGreatDoor
set_option linter.unusedVariables false
set_option linter.unusedSimpArgs false
set_option maxHeartbeats 8000000
section
open Go.RowKit
theorem addr_plain (b o k : Nat) : (⟨b, o, none⟩ : Addr).add k = ⟨b, o + k, none⟩ := by
 unfold Addr.add
 split <;> simp_all
structure Env (w : World) : Prop where
 tab : Lib.TabIs Tryz.prog w "internal/strconv.uint64pow10" .u64 Lib.pow10Tab
 syn : ∃ ev, w.cell? ⟨0, 0, none⟩ = some ev ∧ (ev = .nilIface ∨ ∃ te pe, ev = .iface te pe)
 rng : ∃ ev, w.cell? ⟨1, 0, none⟩ = some ev ∧ (ev = .nilIface ∨ ∃ te pe, ev = .iface te pe)
 max : ∃ m, w.cell? ⟨2, 0, none⟩ = some (.int .i64 m)
theorem tabIs_non {n : String} {k : IntKind} {zs : List Int} {w w' : World} (h : Lib.TabIs Tryz.prog w n k zs) (hg : Chg Non w w') : Lib.TabIs Tryz.prog w' n k zs := by
 unfold Lib.TabIs World.var? at h ⊢
 cases hq : Tryz.prog.globalNamed n with
 | none => rw [hq] at h; cases h
 | some g =>
  rw [hq] at h
  simp only [Option.bind_some] at h ⊢
  have hlt : g < w.heap.size := by
   rcases Nat.lt_or_ge g w.heap.size with h' | h'
   ·exact h'
   ·rw [Array.getElem?_eq_none h'] at h; cases h
  rw [hg.block g hlt (fun e => e)]
  exact h
theorem Env.non {w w' : World} (h : Env w) (hg : Chg Non w w') : Env w' := by
 obtain ⟨h1, ⟨e1, h2, h2'⟩, ⟨e2, h3, h3'⟩, ⟨m, h4⟩⟩ := h
 exact ⟨tabIs_non h1 hg, ⟨e1, hg.cell_some h2 (fun e => e), h2'⟩, ⟨e2, hg.cell_some h3 (fun e => e), h3'⟩, ⟨m, hg.cell_some h4 (fun e => e)⟩⟩
theorem chg_grow (w : World) (os : Array Obj) : Chg Non w (Go.Sort.grow w os) :=
 ⟨rfl, rfl, rfl, by simp [Go.Sort.grow], fun k hk _ => by simp [Go.Sort.grow, Array.getElem?_append_left hk]⟩
theorem itoa_ok (n : Int) (w : World) (hE : Env w) (h0 : -9223372036854775808 ≤ n) (h1 : n ≤ 9223372036854775807) :
  Calls Tryz.prog 137 #[.int .i64 n] w fun e w' => e = .returned (mkStr (Lib.itoa n)) ∧ Chg Non w w' :=
 (Tryz.strconv_Itoa n h0 h1 w hE.tab).mono fun e w' ⟨he, k, os, hw⟩ => ⟨he, by
   subst hw
   exact ((Chg.refl Non w).drewN k).then_non (chg_grow _ _)⟩
def RdS (w : World) (A : Option Addr) (l : List (List UInt8)) : Prop :=
 ∀ (i : Nat) (x : List UInt8), l[i]? = some x → ∃ b o, A = some ⟨b, o, none⟩ ∧ w.cell? ⟨b, o + i, none⟩ = some (mkStr x)
theorem RdS.non {w w' : World} {A : Option Addr} {l : List (List UInt8)} (h : RdS w A l) (hg : Chg Non w w') : RdS w' A l := fun i x hx => by
 obtain ⟨b, o, e, hc⟩ := h i x hx
 exact ⟨b, o, e, hg.cell_some hc (fun e => e)⟩
def OwnS (B : Nat) (w : World) (v : Value) (l : List (List UInt8)) : Prop := w.ownsRow B 9 1 v l.length (l.map mkStr)
theorem own_chgS {S : Nat → Prop} {w w' : World} {B : Nat} {e : TypeId} {size : Nat} {v : Value} {n : Nat} {xs : List Value} (h : w.ownsRow B e size v n xs) (hg : Chg S w w') (hn : ∀ g, v.ownBlock = some g → ¬ S g) : w'.ownsRow B e size v n xs := by
 refine ⟨h.1, ?_⟩
 rcases h.2 with h0 | ⟨g, cap, cur, rfl, hB, hb, r1⟩
 ·exact .inl h0
 ·exact .inr ⟨g, cap, cur, rfl, hB, (hg.block g (Array.getElem?_eq_some_iff.1 hb).1 (hn g rfl)).trans hb, r1⟩
theorem OwnS.keep {S : Nat → Prop} {B : Nat} {w w' : World} {v : Value} {l : List (List UInt8)} (h : OwnS B w v l) (hg : Chg S w w') (hn : ∀ g, v.ownBlock = some g → ¬ S g) : OwnS B w' v l := own_chgS h hg hn
theorem OwnS.non {B : Nat} {w w' : World} {v : Value} {l : List (List UInt8)} (h : OwnS B w v l) (hg : Chg Non w w') : OwnS B w' v l := h.keep hg fun _ _ e => e
theorem OwnS.ge {B : Nat} {w : World} {v : Value} {l : List (List UInt8)} (h : OwnS B w v l) {g : Nat} (hg : v.ownBlock = some g) : B ≤ g := by
 rcases h.2 with ⟨rfl, _⟩ | ⟨g2, cap, cur, rfl, hB, _⟩
 ·simp [Value.ownBlock] at hg
 ·obtain rfl : g2 = g := by simpa [Value.ownBlock] using hg
  exact hB
theorem OwnS.rd {B : Nat} {w : World} {v : Value} {l : List (List UInt8)} (h : OwnS B w v l) : ∃ A c, v = .slice A l.length c ∧ l.length ≤ c ∧ c ≤ maxLen ∧ RdS w A l := by
 rcases h.2 with ⟨rfl, h0⟩ | ⟨g, cap, cur, rfl, hB, hg, h1, h2, h3, h4⟩
 ·have : l = [] := List.eq_nil_of_length_eq_zero h0
  subst this
  exact ⟨none, 0, rfl, Nat.le_refl _, by simp, fun i x hx => by simp at hx⟩
 ·refine ⟨_, cap, rfl, h1, h2, fun i x hx => ⟨g, 0, rfl, ?_⟩⟩
  have := h.cells (g := g) rfl i (mkStr x) (by rw [List.getElem?_map, hx]; rfl)
  rw [addr_plain] at this
  exact this
theorem info_str : (Tryz.prog.info? 9).map (fun i => (i.zero, i.size, i.bytes)) = some (some (.string ByteArray.empty), 1, 16) := by kernel_rfl
set_option maxRecDepth 10000 in
theorem wp_snocS {o : Oper} {a : Act} {w : World} {K : Act → World → Prop} {Q : Exit → Act → World → Prop} (s x : Operand)
  (ho : o.op = .call { callee := .builtin .append, args := #[s, x], argTypes := #[100, 100] })
  (B : Nat) (v : Value) (l : List (List UInt8)) (hs : a.eval s = v) (hown : OwnS B w v l) (b : Nat) (y : List UInt8) (hx : a.eval x = .slice (some ⟨b, 0, none⟩) 1 1) (hb : w.cell? ⟨b, 0, none⟩ = some (mkStr y))
  (hl : l.length ≤ 1000000) (hB : B ≤ w.heap.size)
  (h : ∀ v2 w2, OwnS B w2 v2 (l ++ [y]) → Chg (fun k => v.ownBlock = some k) w w2 → (v2.ownBlock = v.ownBlock ∨ v2.ownBlock = some w.heap.size) → K (a.put o.dst v2) w2) : o.wp Tryz.prog a w K Q := by
 obtain ⟨i0, hi0, hz0, hs0, hb0⟩ := info_parts info_str
 refine wp_append_lies w s x 100 ho B 9 i0 _ 1 16 Tryz.underlying100 hi0 hz0 hs0 hb0 rfl (by omega) v l.length (l.map mkStr) hs hown ⟨b, 0, none⟩ 1 1 [mkStr y] hx rfl ?_ ?_ (by omega) (by unfold maxLen; omega) (by omega) hB _ rfl ?_
 ·intro j u hu
  cases j with
  | zero =>
   simp only [List.getElem?_cons_zero, Option.some.injEq] at hu
   subst hu
   rw [addr_plain]
   exact hb
  | succ j => simp at hu
 ·intro u hu
  simp only [List.mem_singleton] at hu
  subst hu
  rfl
 ·intro g cap w2 h2 hgrow hat hlt
  refine h _ _ ?_ ?_ ?_
  ·unfold OwnS
   rw [List.length_append, List.map_append]
   exact h2
  ·exact (Chg.refl _ w).grown hgrow fun g' hg' => .inl hg'
  ·rcases hat with h | h
   ·exact .inl h.symm
   ·exact .inr (by rw [h]; rfl)
end
section
open Go.RowKit
def fourC (p : Nat × Nat × Nat × Nat) : Array Value := #[.int .u8 p.1, .int .u8 p.2.1, .int .u8 p.2.2.1, .int .u8 p.2.2.2]
theorem info_four : (Tryz.prog.info? 146).map (·.size) = some 4 := by kernel_rfl
def Cells5 (w' : World) (b : Nat) (v0 v1 v2 v3 v4 : Value) : Prop :=
 b < w'.heap.size ∧ w'.cell? ⟨b, 0, none⟩ = some v0 ∧ w'.cell? ⟨b, 1, none⟩ = some v1 ∧ w'.cell? ⟨b, 2, none⟩ = some v2 ∧ w'.cell? ⟨b, 3, none⟩ = some v3 ∧ w'.cell? ⟨b, 4, none⟩ = some v4
theorem cells5A (w w' : World) (v0 v1 v2 v3 v4 : Value) (t : TypeId) (hg : Chg Non (w.alloc (.cells #[v0, v1, v2, v3, v4] t)) w') : Cells5 w' w.heap.size v0 v1 v2 v3 v4 := cells5 w w' _ _ _ _ _ _ hg
theorem Cells5.non {w w' : World} {b : Nat} {v0 v1 v2 v3 v4 : Value} (h : Cells5 w b v0 v1 v2 v3 v4) (hg : Chg Non w w') : Cells5 w' b v0 v1 v2 v3 v4 := by
 obtain ⟨hz, c0, c1, c2, c3, c4⟩ := h
 exact ⟨Nat.lt_of_lt_of_le hz hg.size, hg.cell_some c0 (fun e => e), hg.cell_some c1 (fun e => e), hg.cell_some c2 (fun e => e), hg.cell_some c3 (fun e => e), hg.cell_some c4 (fun e => e)⟩
theorem enc_blk {w w' : World} {o o' : Obj} (hg : Chg Non ((w.alloc o).alloc o') w') : w'.heap[w.heap.size + 1]? = some o' :=
 (hg.block _ (by simp) (fun e => e)).trans (by rw [show w.heap.size + 1 = (w.alloc o).heap.size by simp, heap_alloc_new])
set_option maxRecDepth 100000 in
theorem Encode_no (x : Ins) (w : World) (h : mayB x = false) :
  Calls Tryz.prog 69 #[.agg #[.int .u8 x.op, .int .u8 x.a, .int .u8 x.b, .int .u8 x.c, .int .i64 x.n]] w fun e w' => e = .returned (.tuple #[.agg #[.int .u8 0, .int .u8 0, .int .u8 0, .int .u8 0], .int .i64 190]) ∧ Chg Non w w' := by
 have HM := Lib.hid (fun w => May_ok x w)
 rw [h] at HM
 clear h
 obtain ⟨op, a, b, c, n⟩ := x
 go_enter Tryz.func69, Tryz.ntmps69
 go_wp2_with fail
 refine (HM.out _).mono ?_
 rintro e w' ⟨rfl, hg⟩
 have hg1 : Chg Non w w' := (((Chg.refl Non w).alloc _).alloc _).then_non hg
 have HB : Hid (w'.heap[w.heap.size + 1]? = some (.cells #[.int .u8 0, .int .u8 0, .int .u8 0, .int .u8 0] 146 (0, 0))) := Lib.hid ((hg.block _ (by simp) (fun e => e)).trans (by
   rw [show w.heap.size + 1 = (w.alloc (.cells #[.int .u8 op, .int .u8 a, .int .u8 b, .int .u8 c, .int .i64 n] 143)).heap.size by simp, heap_alloc_new]))
 clear hg
 have HG := Lib.hid hg1
 clear hg1
 go_wp2_with (first
   | (refine sel none (.store 146 (.tmp 2) (.tmp 10)) ?_
      refine wpList_store_rowA rfl 146 (.tmp 2) (.tmp 10) rfl (w.heap.size + 1) _ rfl rfl 146 _ HB.out info_four rfl (by kernel_rfl) ?_
      intro W hgW hbW
      have HBW := Lib.hid hbW
      have HGW := Lib.hid hgW
      clear hbW hgW))
 exact bodyPost_ret (results_ct Tryz.results69 _ _ (w.heap.size + 1) 146 _ (0, 0) _ (.int .i64 190) rfl rfl HBW.out Tryz.underlying146 rfl info_four) rfl ⟨rfl, HG.out.then_new HGW.out (fun x e => by omega)⟩
set_option maxRecDepth 100000 in
theorem Encode_ok (x : Ins) (w : World) (h : mayB x = true) :
  Calls Tryz.prog 69 #[.agg #[.int .u8 x.op, .int .u8 x.a, .int .u8 x.b, .int .u8 x.c, .int .i64 x.n]] w fun e w' => e = .returned (.tuple #[.agg (fourC (encI x)), .int .i64 0]) ∧ Chg Non w w' := by
 have HM := Lib.hid (fun w => May_ok x w)
 rw [h] at HM
 have hi := (mayB_iff x).1 h
 have hbd := May.bd h
 clear h
 obtain ⟨op, a, b, c, n⟩ := x
 simp only at hi hbd HM ⊢
 obtain ⟨_, _, _, _, hn0, hn1⟩ := hi
 obtain ⟨bo, ba, bb, bc, _, _⟩ := hbd
 simp only at bo ba bb bc
 obtain ⟨m, rfl⟩ : ∃ m : Nat, n = m := ⟨n.toNat, by omega⟩
 have HO := Lib.hid (fun w => of_any op w)
 have hnn := opAt_n op
 have hE : encI ⟨op, a, b, c, m⟩ = if 255 < (opAt op).n then (op, a, m / 256, m % 256) else if 0 < (opAt op).n then (op, a, b, m) else (op, a, b, c) := by
  unfold encI; simp
 rw [hE]
 clear hE
 obtain ⟨F, hF⟩ : ∃ F, opAt op = F := ⟨_, rfl⟩
 rw [hF] at hn1 HO hnn ⊢
 clear hF
 have hop : opC F = #[.string ⟨F.name.toArray⟩, .bool F.a, .bool F.b, .bool F.c, .int .i64 F.n] := rfl
 rw [hop] at HO
 clear hop
 obtain ⟨s, hs⟩ : ∃ s : ByteArray, (⟨F.name.toArray⟩ : ByteArray) = s := ⟨_, rfl⟩
 rw [hs] at HO
 clear hs
 obtain ⟨fn, hfn⟩ : ∃ fa, F.n = fa := ⟨_, rfl⟩
 rw [hfn] at hn1 HO hnn ⊢
 clear hfn
 by_cases hw : 255 < fn
 ·have e1 : decide ((fn : Int) > 255) = true := by simp; omega
  rw [if_pos hw]
  go_enter Tryz.func69, Tryz.ntmps69
  go_wp2_with fail
  refine (HM.out _).mono ?_
  rintro e w' ⟨rfl, hg⟩
  have HC := Lib.hid (cells5A w w' _ _ _ _ _ _ (((Chg.refl Non _).alloc _).then_non hg))
  obtain ⟨hz, c0, c1, c2, c3, c4⟩ := HC.out
  have HG : Hid (Chg Non w w') := Lib.hid ((((Chg.refl Non w).alloc _).alloc _).then_non hg)
  have HB := Lib.hid (enc_blk hg)
  clear hg
  go_wp2_with fail
  refine (HO.out _).mono ?_
  rintro e w2 ⟨rfl, hg⟩
  clear hz c0 c1 c2 c3 c4
  obtain ⟨hz, c0, c1, c2, c3, c4⟩ := HC.out.non hg
  have HG2 := Lib.hid (HG.out.then_non hg)
  have HB2 := Lib.hid (blockN hg HB.out)
  clear hg
  go_wp2_with fail
  go_region
  go_wp2_with (first
    | (refine sel none (.store 146 (.tmp 2) (.tmp 49)) ?_
       refine wpList_store_rowA rfl 146 (.tmp 2) (.tmp 49) rfl (w.heap.size + 1) #[.int .u8 op, .int .u8 a, .int .u8 ((m : Int) / 256), .int .u8 ((m : Int) % 256)] rfl rfl 146 _ (blockN ((((Chg.refl Non _).alloc _).alloc _).drew) HB2.out) info_four rfl (by simp [Value.oneCell']) ?_
       intro W hgW hbW
       have HBW := Lib.hid hbW
       have HGW := Lib.hid hgW
       clear hbW hgW))
  exact bodyPost_ret (results_ct Tryz.results69 _ _ (w.heap.size + 1) 146 _ (0, 0) _ (.int .i64 0) rfl rfl HBW.out Tryz.underlying146 rfl info_four) rfl ⟨by simp [fourC], ((((HG2.out).alloc _).alloc _).drew).then_new HGW.out (fun x e => by omega)⟩
 ·have e1 : decide ((fn : Int) > 255) = false := by simp; omega
  rw [if_neg hw]
  by_cases hs : 0 < fn
  ·have e2 : decide ((fn : Int) > 0) = true := by simp; omega
   rw [if_pos hs]
   go_enter Tryz.func69, Tryz.ntmps69
   go_wp2_with fail
   refine (HM.out _).mono ?_
   rintro e w' ⟨rfl, hg⟩
   have HC := Lib.hid (cells5A w w' _ _ _ _ _ _ (((Chg.refl Non _).alloc _).then_non hg))
   obtain ⟨hz, c0, c1, c2, c3, c4⟩ := HC.out
   have HG : Hid (Chg Non w w') := Lib.hid ((((Chg.refl Non w).alloc _).alloc _).then_non hg)
   have HB := Lib.hid (enc_blk hg)
   clear hg
   go_wp2_with fail
   refine (HO.out _).mono ?_
   rintro e w2 ⟨rfl, hg⟩
   clear hz c0 c1 c2 c3 c4
   obtain ⟨hz, c0, c1, c2, c3, c4⟩ := HC.out.non hg
   have HG2 := Lib.hid (HG.out.then_non hg)
   have HB2 := Lib.hid (blockN hg HB.out)
   clear hg
   go_wp2_with (first
     | (refine sel none (.store 146 (.tmp 2) (.tmp 49)) ?_
        refine wpList_store_rowA rfl 146 (.tmp 2) (.tmp 49) rfl (w.heap.size + 1) #[.int .u8 op, .int .u8 a, .int .u8 b, .int .u8 m] rfl rfl 146 _ (blockN (((Chg.refl Non _).alloc _).alloc _) HB2.out) info_four rfl (by simp [Value.oneCell']) ?_
        intro W hgW hbW
        have HBW := Lib.hid hbW
        have HGW := Lib.hid hgW
        clear hbW hgW))
   exact bodyPost_ret (results_ct Tryz.results69 _ _ (w.heap.size + 1) 146 _ (0, 0) _ (.int .i64 0) rfl rfl HBW.out Tryz.underlying146 rfl info_four) rfl ⟨by simp [fourC], (((HG2.out).alloc _).alloc _).then_new HGW.out (fun x e => by omega)⟩
  ·have e2 : decide ((fn : Int) > 0) = false := by simp; omega
   rw [if_neg hs]
   go_enter Tryz.func69, Tryz.ntmps69
   go_wp2_with fail
   refine (HM.out _).mono ?_
   rintro e w' ⟨rfl, hg⟩
   have HC := Lib.hid (cells5A w w' _ _ _ _ _ _ (((Chg.refl Non _).alloc _).then_non hg))
   obtain ⟨hz, c0, c1, c2, c3, c4⟩ := HC.out
   have HG : Hid (Chg Non w w') := Lib.hid ((((Chg.refl Non w).alloc _).alloc _).then_non hg)
   have HB := Lib.hid (enc_blk hg)
   clear hg
   go_wp2_with fail
   refine (HO.out _).mono ?_
   rintro e w2 ⟨rfl, hg⟩
   clear hz c0 c1 c2 c3 c4
   obtain ⟨hz, c0, c1, c2, c3, c4⟩ := HC.out.non hg
   have HG2 := Lib.hid (HG.out.then_non hg)
   have HB2 := Lib.hid (blockN hg HB.out)
   clear hg
   go_wp2_with (first
     | (refine sel none (.store 146 (.tmp 2) (.tmp 49)) ?_
        refine wpList_store_rowA rfl 146 (.tmp 2) (.tmp 49) rfl (w.heap.size + 1) #[.int .u8 op, .int .u8 a, .int .u8 b, .int .u8 c] rfl rfl 146 _ (blockN (((Chg.refl Non _).alloc _).alloc _) HB2.out) info_four rfl (by simp [Value.oneCell']) ?_
        intro W hgW hbW
        have HBW := Lib.hid hbW
        have HGW := Lib.hid hgW
        clear hbW hgW))
   exact bodyPost_ret (results_ct Tryz.results69 _ _ (w.heap.size + 1) 146 _ (0, 0) _ (.int .i64 0) rfl rfl HBW.out Tryz.underlying146 rfl info_four) rfl ⟨by simp [fourC], (((HG2.out).alloc _).alloc _).then_new HGW.out (fun x e => by omega)⟩
end
section
open Go.RowKit
theorem keyLits_u8n {P : Program} {e : TypeId} {D : Nat} (he : P.underlying e = some (.int .u8)) (b : Nat) (h : b < 256) : P.keyLits (D + 1) e [.int .u8 b] = some [.int .u8 (b : Int)] := by
 unfold Program.keyLits
 rw [he]
 have hw : (Lit.int .u8 (b : Int)).wf = true := WalkArith.wf_u8 (by omega)
 simp only [true_and, hw, if_true]
theorem keyLits_i64 {P : Program} {e : TypeId} {D : Nat} (he : P.underlying e = some (.int .i64)) (n : Int) (h : -9223372036854775808 ≤ n ∧ n ≤ 9223372036854775807) : P.keyLits (D + 1) e [.int .i64 n] = some [.int .i64 n] := by
 unfold Program.keyLits
 rw [he]
 have hw : (Lit.int .i64 n).wf = true := WalkArith.wf_i64 (by omega)
 simp only [true_and, hw, if_true]
theorem eq_agg {P : Program} {t : TypeId} {xs ys : Array Value} {la lb : List Lit} {p : Prop} [Decidable p] (hp : la = lb ↔ p) (m : Nat) (hm : m ≤ 10000) (hk : P.keyTypeAt m t = true) (hx : (Value.agg xs).formed P t = true) (hy : (Value.agg ys).formed P t = true)
  (ka : P.keyLits m t xs.toList = some la) (kb : P.keyLits m t ys.toList = some lb) (w : World) :
  (binOp .eql t (.agg xs) (.agg ys)).run P w = .ok (.bool (decide p)) w ∧ (binOp .neq t (.agg xs) (.agg ys)).run P w = .ok (.bool (!decide p)) w := by
 have key := run_equalIn_deep (10000 - m) m t hk w m m _ _ _ _ hx hy ka kb
 rw [show 10000 - m + m = 10000 by omega] at key
 obtain ⟨q, hq, hqi⟩ := key
 have e : q = decide p := by
  rw [Bool.eq_iff_iff, hqi, hp]; simp
 subst e
 rw [run_eql_struct, run_neq_struct, hq]
 exact ⟨rfl, rfl⟩
def fourLits (p : Nat × Nat × Nat × Nat) : List Lit := [.int .u8 p.1, .int .u8 p.2.1, .int .u8 p.2.2.1, .int .u8 p.2.2.2]
theorem fourLits_inj {p q : Nat × Nat × Nat × Nat} : fourLits p = fourLits q ↔ p = q := by
 obtain ⟨a, b, c, d⟩ := p
 obtain ⟨a', b', c', d'⟩ := q
 simp [fourLits]; omega
def Four (p : Nat × Nat × Nat × Nat) : Prop := p.1 < 256 ∧ p.2.1 < 256 ∧ p.2.2.1 < 256 ∧ p.2.2.2 < 256
set_option maxRecDepth 100000 in
theorem keyLits_four (p : Nat × Nat × Nat × Nat) (h : Four p) : Tryz.prog.keyLits 3 146 (fourC p).toList = some (fourLits p) := by
 obtain ⟨a, b, c, d⟩ := p
 obtain ⟨h1, h2, h3, h4⟩ := h
 simp only at h1 h2 h3 h4
 unfold Program.keyLits
 rw [Tryz.underlying146]
 have c4 : Tryz.prog.cellsOf 146 = 4 := by kernel_rfl
 have c1 : Tryz.prog.cellsOf 5 = 1 := by kernel_rfl
 have k1 := keyLits_u8n (D := 1) Tryz.underlying5 a h1
 have k2 := keyLits_u8n (D := 1) Tryz.underlying5 b h2
 have k3 := keyLits_u8n (D := 1) Tryz.underlying5 c h3
 have k4 := keyLits_u8n (D := 1) Tryz.underlying5 d h4
 simp [fourC, c1, c4, k1, k2, k3, k4, fourLits, List.range, List.range.loop]
theorem four_formed (p : Nat × Nat × Nat × Nat) : (Value.agg (fourC p)).formed Tryz.prog 146 = true := by
 have c4 : Tryz.prog.cellsOf 146 = 4 := by kernel_rfl
 unfold Value.formed
 rw [Tryz.underlying146]
 simp [c4, fourC]
theorem eq_four (p q : Nat × Nat × Nat × Nat) (hp : Four p) (hq : Four q) (w : World) :
  (binOp .eql 146 (.agg (fourC p)) (.agg (fourC q))).run Tryz.prog w = .ok (.bool (decide (p = q))) w ∧ (binOp .neq 146 (.agg (fourC p)) (.agg (fourC q))).run Tryz.prog w = .ok (.bool (!decide (p = q))) w := by
 exact eq_agg fourLits_inj 3 (by omega) (by kernel_rfl) (four_formed p) (four_formed q) (keyLits_four p hp) (keyLits_four q hq) w
end
section
open Go.RowKit
theorem dec_w (p q r s : Nat) (h : 255 < (opAt p).n) : decI p q r s = ⟨p, q, 0, 0, (256 * r + s : Nat)⟩ := by unfold decI; rw [if_pos h]; simp
theorem dec_s (p q r s : Nat) (h : ¬ 255 < (opAt p).n) (h2 : 0 < (opAt p).n) : decI p q r s = ⟨p, q, r, 0, s⟩ := by unfold decI; rw [if_neg h, if_pos h2]
theorem dec_n (p q r s : Nat) (h : ¬ 255 < (opAt p).n) (h2 : ¬ 0 < (opAt p).n) : decI p q r s = ⟨p, q, r, s, 0⟩ := by unfold decI; rw [if_neg h, if_neg h2]
theorem cells4 (w w' : World) (v0 v1 v2 v3 : Value) (t : TypeId) (hg : Chg Non (w.alloc (.cells #[v0, v1, v2, v3] t)) w') :
  w.heap.size < w'.heap.size ∧ w'.cell? ⟨w.heap.size, 0, none⟩ = some v0 ∧ w'.cell? ⟨w.heap.size, 1, none⟩ = some v1 ∧ w'.cell? ⟨w.heap.size, 2, none⟩ = some v2 ∧ w'.cell? ⟨w.heap.size, 3, none⟩ = some v3 := by
 have hb := new_block hg
 exact ⟨(Array.getElem?_eq_some_iff.1 hb).1, row_cell hb rfl, row_cell hb rfl, row_cell hb rfl, row_cell hb rfl⟩
def Cells4 (w' : World) (b : Nat) (v0 v1 v2 v3 : Value) : Prop :=
 b < w'.heap.size ∧ w'.cell? ⟨b, 0, none⟩ = some v0 ∧ w'.cell? ⟨b, 1, none⟩ = some v1 ∧ w'.cell? ⟨b, 2, none⟩ = some v2 ∧ w'.cell? ⟨b, 3, none⟩ = some v3
theorem Cells4.non {w w' : World} {b : Nat} {v0 v1 v2 v3 : Value} (h : Cells4 w b v0 v1 v2 v3) (hg : Chg Non w w') : Cells4 w' b v0 v1 v2 v3 := by
 obtain ⟨hz, c0, c1, c2, c3⟩ := h
 exact ⟨Nat.lt_of_lt_of_le hz hg.size, hg.cell_some c0 (fun e => e), hg.cell_some c1 (fun e => e), hg.cell_some c2 (fun e => e), hg.cell_some c3 (fun e => e)⟩
theorem info_ins : (Tryz.prog.info? 143).map (·.size) = some 5 := by kernel_rfl
theorem or_i64 (a b : Nat) (ha : a < 65536) (hb : b < 65536) : bits .or .i64 (a : Int) (b : Int) = ((a ||| b : Nat) : Int) := by
 have hx : a ||| b < 2 ^ 16 := Nat.or_lt_two_pow (by omega) (by omega)
 show IntKind.i64.wrap ((BitVec.ofInt 64 (a : Int) ||| BitVec.ofInt 64 (b : Int)).toNat : Int) = _
 rw [BitVec.toNat_or, ofInt_u64 a (by omega), ofInt_u64 b (by omega)]
 simp [IntKind.wrap, IntKind.bits, IntKind.signed]
 omega
theorem or_join (r s : Nat) (hr : r < 256) (hs : s < 256) : bits .or .i64 ((r : Int) * 256) (s : Int) = ((256 * r + s : Nat) : Int) := by
 have h := or_i64 (r * 256) s (by omega) (by omega)
 rw [nat_join 8 (r * 256) s (by omega) (by omega)] at h
 rw [show ((r * 256 : Nat) : Int) = (r : Int) * 256 by omega] at h
 rw [h]
 omega
theorem four_same (p q r s : Nat) (hp : p < 256) (hq : q < 256) (hr : r < 256) (hs : s < 256) (W : World) : (binOp .neq 146 (.agg #[.int .u8 p, .int .u8 q, .int .u8 r, .int .u8 s]) (.agg #[.int .u8 p, .int .u8 q, .int .u8 r, .int .u8 s])).run Tryz.prog W = .ok (.bool false) W := by
 have h := (eq_four (p, q, r, s) (p, q, r, s) ⟨hp, hq, hr, hs⟩ ⟨hp, hq, hr, hs⟩ W).2
 simpa [fourC] using h
theorem z_lt {w W w2 : World} {b : Nat} (h : Chg Non w W) (hg : Chg Non W w2) (hz : b < w.heap.size) : b < w2.heap.size := Nat.lt_of_lt_of_le hz (Nat.le_trans h.size hg.size)
theorem dec_blkD {w w2 : World} {o : Obj} {t : TypeId} {v0 v1 v2 v3 v4 : Value} (hg : Chg Non ((w.alloc o).alloc (.cells #[v0, v1, v2, v3, v4] t)).drew w2) : Cells5 w2 (w.heap.size + 1) v0 v1 v2 v3 v4 := by
 have h := cells5A (w.alloc o) w2 v0 v1 v2 v3 v4 t (((Chg.refl Non _).drew).then_non hg)
 rwa [show (w.alloc o).heap.size = w.heap.size + 1 by simp] at h
theorem dec_blk {w w2 : World} {o : Obj} {t : TypeId} {v0 v1 v2 v3 v4 : Value} (hg : Chg Non ((w.alloc o).alloc (.cells #[v0, v1, v2, v3, v4] t)) w2) : Cells5 w2 (w.heap.size + 1) v0 v1 v2 v3 v4 := by
 have h := cells5A (w.alloc o) w2 v0 v1 v2 v3 v4 t hg
 rwa [show (w.alloc o).heap.size = w.heap.size + 1 by simp] at h
set_option maxRecDepth 100000 in
theorem Decode_w1 (p q r s : Nat) (w : World) (hp : p < 256) (hq : q < 256) (hr : r < 256) (hs : s < 256) (hw : 255 < (opAt p).n) (ho : okB p = true) (hm : mayB (decI p q r s) = true) :
  Calls Tryz.prog 233 #[.agg #[.int .u8 p, .int .u8 q, .int .u8 r, .int .u8 s]] w fun e w' => e = .returned (.tuple #[.agg (insC (decI p q r s)), .int .i64 0]) ∧ Chg Non w w' := by
 have HE := Lib.hid (fun w => Encode_ok (decI p q r s) w hm)
 rw [enc_dec p q r s hp hq hr hs, dec_w p q r s hw] at HE
 rw [dec_w p q r s hw]
 simp only [fourC, insC] at HE ⊢
 clear hm
 have HO := Lib.hid (fun w => of_any p w)
 rw [ho] at HO
 clear ho
 obtain ⟨F, hF⟩ : ∃ F, opAt p = F := ⟨_, rfl⟩
 rw [hF] at hw HO
 clear hF
 have hop : opC F = #[.string ⟨F.name.toArray⟩, .bool F.a, .bool F.b, .bool F.c, .int .i64 F.n] := rfl
 rw [hop] at HO
 clear hop
 have e1 : decide ((F.n : Int) > 255) = true := by simp; omega
 have hbits : bits .or .i64 ((r : Int) * 256) (s : Int) = ((256 * r + s : Nat) : Int) := or_join r s hr hs
 obtain ⟨N, hN⟩ : ∃ N, 256 * r + s = N := ⟨_, rfl⟩
 rw [hN] at HE hbits ⊢
 clear hN
 have heq : ∀ W : World, (binOp .neq 146 (.agg #[.int .u8 p, .int .u8 q, .int .u8 r, .int .u8 s]) (.agg #[.int .u8 p, .int .u8 q, .int .u8 r, .int .u8 s])).run Tryz.prog W = .ok (.bool false) W := four_same p q r s hp hq hr hs
 clear hp hq
 go_enter Tryz.func233, Tryz.ntmps233
 go_wp2_with fail
 refine (HO.out _).mono ?_
 rintro e w' ⟨rfl, hg⟩
 have HG : Hid (Chg Non w w') := Lib.hid ((((Chg.refl Non w).alloc _).alloc _).then_non hg)
 have HB := Lib.hid (enc_blk hg)
 have HC : Hid (Cells4 w' w.heap.size _ _ _ _) := Lib.hid (cells4 w w' _ _ _ _ _ (((Chg.refl Non _).alloc _).then_non hg))
 obtain ⟨hz, c0, c1, c2, c3⟩ := HC.out
 clear hg
 go_wp2_with fail
 go_region
 go_wp2_with fail
 refine (HE.out _).mono ?_
 rintro e w2 ⟨rfl, hg⟩
 have HZ2 := Lib.hid (z_lt ((((Chg.refl Non _).alloc _).alloc _).drew) hg hz)
 have HX := Lib.hid (dec_blkD hg)
 have HG2 : Hid (Chg Non w w2) := Lib.hid (((((HG.out).alloc _).alloc _).drew).then_non hg)
 have HB2 := Lib.hid (blockN (((((Chg.refl Non _).alloc _).alloc _).drew).then_non hg) HB.out)
 clear hz c0 c1 c2 c3
 obtain ⟨hz, c0, c1, c2, c3⟩ := HC.out.non (((((Chg.refl Non _).alloc _).alloc _).drew).then_non hg)
 obtain ⟨hz5, x0, x1, x2, x3, x4⟩ := HX.out
 have hzz := HZ2.out
 clear hg
 go_wp2_with (first
   | (refine sel none (.store 143 (.tmp 2) (.tmp 67)) ?_
      refine wpList_store_rowA rfl 143 (.tmp 2) (.tmp 67) rfl (w.heap.size + 1) #[.int .u8 p, .int .u8 q, .int .u8 0, .int .u8 0, .int .i64 N] rfl rfl 143 _ (blockN ((Chg.refl Non _).alloc _) HB2.out) info_ins rfl (by simp [Value.oneCell']) ?_
      intro W hgW hbW
      have HBW := Lib.hid hbW
      have HGW := Lib.hid hgW
      clear hbW hgW))
 exact bodyPost_ret (results_ct Tryz.results233 _ _ (w.heap.size + 1) 143 _ (0, 0) _ (.int .i64 0) rfl rfl HBW.out Tryz.underlying143 rfl info_ins) rfl ⟨rfl, ((HG2.out).alloc _).then_new HGW.out (fun x e => by omega)⟩
set_option maxRecDepth 100000 in
theorem Decode_s1 (p q r s : Nat) (w : World) (hp : p < 256) (hq : q < 256) (hr : r < 256) (hs : s < 256) (hw : ¬ 255 < (opAt p).n) (hn : 0 < (opAt p).n) (ho : okB p = true) (hm : mayB (decI p q r s) = true) :
  Calls Tryz.prog 233 #[.agg #[.int .u8 p, .int .u8 q, .int .u8 r, .int .u8 s]] w fun e w' => e = .returned (.tuple #[.agg (insC (decI p q r s)), .int .i64 0]) ∧ Chg Non w w' := by
 have HE := Lib.hid (fun w => Encode_ok (decI p q r s) w hm)
 rw [enc_dec p q r s hp hq hr hs, dec_s p q r s hw hn] at HE
 rw [dec_s p q r s hw hn]
 simp only [fourC, insC] at HE ⊢
 clear hm
 have HO := Lib.hid (fun w => of_any p w)
 rw [ho] at HO
 clear ho
 obtain ⟨F, hF⟩ : ∃ F, opAt p = F := ⟨_, rfl⟩
 rw [hF] at hw HO hn
 clear hF
 have hop : opC F = #[.string ⟨F.name.toArray⟩, .bool F.a, .bool F.b, .bool F.c, .int .i64 F.n] := rfl
 rw [hop] at HO
 clear hop
 have e1 : decide ((F.n : Int) > 255) = false := by simp; omega
 have e2 : decide ((F.n : Int) > 0) = true := by simp; omega
 have heq : ∀ W : World, (binOp .neq 146 (.agg #[.int .u8 p, .int .u8 q, .int .u8 r, .int .u8 s]) (.agg #[.int .u8 p, .int .u8 q, .int .u8 r, .int .u8 s])).run Tryz.prog W = .ok (.bool false) W := four_same p q r s hp hq hr hs
 clear hp hq
 go_enter Tryz.func233, Tryz.ntmps233
 go_wp2_with fail
 refine (HO.out _).mono ?_
 rintro e w' ⟨rfl, hg⟩
 have HG : Hid (Chg Non w w') := Lib.hid ((((Chg.refl Non w).alloc _).alloc _).then_non hg)
 have HB := Lib.hid (enc_blk hg)
 have HC : Hid (Cells4 w' w.heap.size _ _ _ _) := Lib.hid (cells4 w w' _ _ _ _ _ (((Chg.refl Non _).alloc _).then_non hg))
 obtain ⟨hz, c0, c1, c2, c3⟩ := HC.out
 clear hg
 go_wp2_with fail
 go_region
 go_wp2_with fail
 refine (HE.out _).mono ?_
 rintro e w2 ⟨rfl, hg⟩
 have HZ2 := Lib.hid (z_lt ((((Chg.refl Non _).alloc _).alloc _).drew) hg hz)
 have HX := Lib.hid (dec_blkD hg)
 have HG2 : Hid (Chg Non w w2) := Lib.hid (((((HG.out).alloc _).alloc _).drew).then_non hg)
 have HB2 := Lib.hid (blockN (((((Chg.refl Non _).alloc _).alloc _).drew).then_non hg) HB.out)
 clear hz c0 c1 c2 c3
 obtain ⟨hz, c0, c1, c2, c3⟩ := HC.out.non (((((Chg.refl Non _).alloc _).alloc _).drew).then_non hg)
 obtain ⟨hz5, x0, x1, x2, x3, x4⟩ := HX.out
 have hzz := HZ2.out
 clear hg
 go_wp2_with (first
   | (refine sel none (.store 143 (.tmp 2) (.tmp 67)) ?_
      refine wpList_store_rowA rfl 143 (.tmp 2) (.tmp 67) rfl (w.heap.size + 1) #[.int .u8 p, .int .u8 q, .int .u8 r, .int .u8 0, .int .i64 s] rfl rfl 143 _ (blockN ((Chg.refl Non _).alloc _) HB2.out) info_ins rfl (by simp [Value.oneCell']) ?_
      intro W hgW hbW
      have HBW := Lib.hid hbW
      have HGW := Lib.hid hgW
      clear hbW hgW))
 exact bodyPost_ret (results_ct Tryz.results233 _ _ (w.heap.size + 1) 143 _ (0, 0) _ (.int .i64 0) rfl rfl HBW.out Tryz.underlying143 rfl info_ins) rfl ⟨rfl, ((HG2.out).alloc _).then_new HGW.out (fun x e => by omega)⟩
set_option maxRecDepth 100000 in
theorem Decode_n1 (p q r s : Nat) (w : World) (hp : p < 256) (hq : q < 256) (hr : r < 256) (hs : s < 256) (hw : ¬ 255 < (opAt p).n) (hn : ¬ 0 < (opAt p).n) (ho : okB p = true) (hm : mayB (decI p q r s) = true) :
  Calls Tryz.prog 233 #[.agg #[.int .u8 p, .int .u8 q, .int .u8 r, .int .u8 s]] w fun e w' => e = .returned (.tuple #[.agg (insC (decI p q r s)), .int .i64 0]) ∧ Chg Non w w' := by
 have HE := Lib.hid (fun w => Encode_ok (decI p q r s) w hm)
 rw [enc_dec p q r s hp hq hr hs, dec_n p q r s hw hn] at HE
 rw [dec_n p q r s hw hn]
 simp only [fourC, insC] at HE ⊢
 clear hm
 have HO := Lib.hid (fun w => of_any p w)
 rw [ho] at HO
 clear ho
 obtain ⟨F, hF⟩ : ∃ F, opAt p = F := ⟨_, rfl⟩
 rw [hF] at hw HO hn
 clear hF
 have hop : opC F = #[.string ⟨F.name.toArray⟩, .bool F.a, .bool F.b, .bool F.c, .int .i64 F.n] := rfl
 rw [hop] at HO
 clear hop
 have e1 : decide ((F.n : Int) > 255) = false := by simp; omega
 have e2 : decide ((F.n : Int) > 0) = false := by simp; omega
 have heq : ∀ W : World, (binOp .neq 146 (.agg #[.int .u8 p, .int .u8 q, .int .u8 r, .int .u8 s]) (.agg #[.int .u8 p, .int .u8 q, .int .u8 r, .int .u8 s])).run Tryz.prog W = .ok (.bool false) W := four_same p q r s hp hq hr hs
 clear hp hq
 go_enter Tryz.func233, Tryz.ntmps233
 go_wp2_with fail
 refine (HO.out _).mono ?_
 rintro e w' ⟨rfl, hg⟩
 have HG : Hid (Chg Non w w') := Lib.hid ((((Chg.refl Non w).alloc _).alloc _).then_non hg)
 have HB := Lib.hid (enc_blk hg)
 have HC : Hid (Cells4 w' w.heap.size _ _ _ _) := Lib.hid (cells4 w w' _ _ _ _ _ (((Chg.refl Non _).alloc _).then_non hg))
 obtain ⟨hz, c0, c1, c2, c3⟩ := HC.out
 clear hg
 go_wp2_with fail
 refine (HE.out _).mono ?_
 rintro e w2 ⟨rfl, hg⟩
 have HZ2 := Lib.hid (z_lt (((Chg.refl Non _).alloc _).alloc _) hg hz)
 have HX := Lib.hid (dec_blk hg)
 have HG2 : Hid (Chg Non w w2) := Lib.hid ((((HG.out).alloc _).alloc _).then_non hg)
 have HB2 := Lib.hid (blockN ((((Chg.refl Non _).alloc _).alloc _).then_non hg) HB.out)
 clear hz c0 c1 c2 c3
 obtain ⟨hz, c0, c1, c2, c3⟩ := HC.out.non ((((Chg.refl Non _).alloc _).alloc _).then_non hg)
 obtain ⟨hz5, x0, x1, x2, x3, x4⟩ := HX.out
 have hzz := HZ2.out
 clear hg
 go_wp2_with (first
   | (refine sel none (.store 143 (.tmp 2) (.tmp 67)) ?_
      refine wpList_store_rowA rfl 143 (.tmp 2) (.tmp 67) rfl (w.heap.size + 1) #[.int .u8 p, .int .u8 q, .int .u8 r, .int .u8 s, .int .i64 0] rfl rfl 143 _ (blockN ((Chg.refl Non _).alloc _) HB2.out) info_ins rfl (by simp [Value.oneCell']) ?_
      intro W hgW hbW
      have HBW := Lib.hid hbW
      have HGW := Lib.hid hgW
      clear hbW hgW))
 exact bodyPost_ret (results_ct Tryz.results233 _ _ (w.heap.size + 1) 143 _ (0, 0) _ (.int .i64 0) rfl rfl HBW.out Tryz.underlying143 rfl info_ins) rfl ⟨rfl, ((HG2.out).alloc _).then_new HGW.out (fun x e => by omega)⟩
set_option maxRecDepth 100000 in
theorem Decode_w0 (p q r s : Nat) (w : World) (hp : p < 256) (hq : q < 256) (hr : r < 256) (hs : s < 256) (hw : 255 < (opAt p).n) (ho : okB p = true) (hm : mayB (decI p q r s) = false) :
  Calls Tryz.prog 233 #[.agg #[.int .u8 p, .int .u8 q, .int .u8 r, .int .u8 s]] w fun e w' => e = .returned (.tuple #[.agg #[.int .u8 0, .int .u8 0, .int .u8 0, .int .u8 0, .int .i64 0], .int .i64 190]) ∧ Chg Non w w' := by
 have HE := Lib.hid (fun w => Encode_no (decI p q r s) w hm)
 rw [dec_w p q r s hw] at HE
 clear hm
 have HO := Lib.hid (fun w => of_any p w)
 rw [ho] at HO
 clear ho
 obtain ⟨F, hF⟩ : ∃ F, opAt p = F := ⟨_, rfl⟩
 rw [hF] at hw HO
 clear hF
 have hop : opC F = #[.string ⟨F.name.toArray⟩, .bool F.a, .bool F.b, .bool F.c, .int .i64 F.n] := rfl
 rw [hop] at HO
 clear hop
 have e1 : decide ((F.n : Int) > 255) = true := by simp; omega
 have hbits : bits .or .i64 ((r : Int) * 256) (s : Int) = ((256 * r + s : Nat) : Int) := or_join r s hr hs
 obtain ⟨N, hN⟩ : ∃ N, 256 * r + s = N := ⟨_, rfl⟩
 rw [hN] at HE hbits
 clear hN
 clear hp hq
 go_enter Tryz.func233, Tryz.ntmps233
 go_wp2_with fail
 refine (HO.out _).mono ?_
 rintro e w' ⟨rfl, hg⟩
 have HG : Hid (Chg Non w w') := Lib.hid ((((Chg.refl Non w).alloc _).alloc _).then_non hg)
 have HB := Lib.hid (enc_blk hg)
 have HC : Hid (Cells4 w' w.heap.size _ _ _ _) := Lib.hid (cells4 w w' _ _ _ _ _ (((Chg.refl Non _).alloc _).then_non hg))
 obtain ⟨hz, c0, c1, c2, c3⟩ := HC.out
 clear hg
 go_wp2_with fail
 go_region
 go_wp2_with fail
 refine (HE.out _).mono ?_
 rintro e w2 ⟨rfl, hg⟩
 have HZ2 := Lib.hid (z_lt ((((Chg.refl Non _).alloc _).alloc _).drew) hg hz)
 have HX := Lib.hid (dec_blkD hg)
 have HG2 : Hid (Chg Non w w2) := Lib.hid (((((HG.out).alloc _).alloc _).drew).then_non hg)
 have HB2 := Lib.hid (blockN (((((Chg.refl Non _).alloc _).alloc _).drew).then_non hg) HB.out)
 clear hz c0 c1 c2 c3
 obtain ⟨hz, c0, c1, c2, c3⟩ := HC.out.non (((((Chg.refl Non _).alloc _).alloc _).drew).then_non hg)
 obtain ⟨hz5, x0, x1, x2, x3, x4⟩ := HX.out
 have hzz := HZ2.out
 clear hg
 go_wp2_with (first
   | (refine sel none (.store 143 (.tmp 2) (.tmp 66)) ?_
      refine wpList_store_rowA rfl 143 (.tmp 2) (.tmp 66) rfl (w.heap.size + 1) #[.int .u8 0, .int .u8 0, .int .u8 0, .int .u8 0, .int .i64 0] rfl rfl 143 _ (blockN ((Chg.refl Non _).alloc _) HB2.out) info_ins rfl (by simp [Value.oneCell']) ?_
      intro W hgW hbW
      have HBW := Lib.hid hbW
      have HGW := Lib.hid hgW
      clear hbW hgW))
 exact bodyPost_ret (results_ct Tryz.results233 _ _ (w.heap.size + 1) 143 _ (0, 0) _ (.int .i64 190) rfl rfl HBW.out Tryz.underlying143 rfl info_ins) rfl ⟨rfl, ((HG2.out).alloc _).then_new HGW.out (fun x e => by omega)⟩
set_option maxRecDepth 100000 in
theorem Decode_s0 (p q r s : Nat) (w : World) (hp : p < 256) (hq : q < 256) (hr : r < 256) (hs : s < 256) (hw : ¬ 255 < (opAt p).n) (hn : 0 < (opAt p).n) (ho : okB p = true) (hm : mayB (decI p q r s) = false) :
  Calls Tryz.prog 233 #[.agg #[.int .u8 p, .int .u8 q, .int .u8 r, .int .u8 s]] w fun e w' => e = .returned (.tuple #[.agg #[.int .u8 0, .int .u8 0, .int .u8 0, .int .u8 0, .int .i64 0], .int .i64 190]) ∧ Chg Non w w' := by
 have HE := Lib.hid (fun w => Encode_no (decI p q r s) w hm)
 rw [dec_s p q r s hw hn] at HE
 clear hm
 have HO := Lib.hid (fun w => of_any p w)
 rw [ho] at HO
 clear ho
 obtain ⟨F, hF⟩ : ∃ F, opAt p = F := ⟨_, rfl⟩
 rw [hF] at hw HO hn
 clear hF
 have hop : opC F = #[.string ⟨F.name.toArray⟩, .bool F.a, .bool F.b, .bool F.c, .int .i64 F.n] := rfl
 rw [hop] at HO
 clear hop
 have e1 : decide ((F.n : Int) > 255) = false := by simp; omega
 have e2 : decide ((F.n : Int) > 0) = true := by simp; omega
 clear hp hq
 go_enter Tryz.func233, Tryz.ntmps233
 go_wp2_with fail
 refine (HO.out _).mono ?_
 rintro e w' ⟨rfl, hg⟩
 have HG : Hid (Chg Non w w') := Lib.hid ((((Chg.refl Non w).alloc _).alloc _).then_non hg)
 have HB := Lib.hid (enc_blk hg)
 have HC : Hid (Cells4 w' w.heap.size _ _ _ _) := Lib.hid (cells4 w w' _ _ _ _ _ (((Chg.refl Non _).alloc _).then_non hg))
 obtain ⟨hz, c0, c1, c2, c3⟩ := HC.out
 clear hg
 go_wp2_with fail
 go_region
 go_wp2_with fail
 refine (HE.out _).mono ?_
 rintro e w2 ⟨rfl, hg⟩
 have HZ2 := Lib.hid (z_lt ((((Chg.refl Non _).alloc _).alloc _).drew) hg hz)
 have HX := Lib.hid (dec_blkD hg)
 have HG2 : Hid (Chg Non w w2) := Lib.hid (((((HG.out).alloc _).alloc _).drew).then_non hg)
 have HB2 := Lib.hid (blockN (((((Chg.refl Non _).alloc _).alloc _).drew).then_non hg) HB.out)
 clear hz c0 c1 c2 c3
 obtain ⟨hz, c0, c1, c2, c3⟩ := HC.out.non (((((Chg.refl Non _).alloc _).alloc _).drew).then_non hg)
 obtain ⟨hz5, x0, x1, x2, x3, x4⟩ := HX.out
 have hzz := HZ2.out
 clear hg
 go_wp2_with (first
   | (refine sel none (.store 143 (.tmp 2) (.tmp 66)) ?_
      refine wpList_store_rowA rfl 143 (.tmp 2) (.tmp 66) rfl (w.heap.size + 1) #[.int .u8 0, .int .u8 0, .int .u8 0, .int .u8 0, .int .i64 0] rfl rfl 143 _ (blockN ((Chg.refl Non _).alloc _) HB2.out) info_ins rfl (by simp [Value.oneCell']) ?_
      intro W hgW hbW
      have HBW := Lib.hid hbW
      have HGW := Lib.hid hgW
      clear hbW hgW))
 exact bodyPost_ret (results_ct Tryz.results233 _ _ (w.heap.size + 1) 143 _ (0, 0) _ (.int .i64 190) rfl rfl HBW.out Tryz.underlying143 rfl info_ins) rfl ⟨rfl, ((HG2.out).alloc _).then_new HGW.out (fun x e => by omega)⟩
set_option maxRecDepth 100000 in
theorem Decode_n0 (p q r s : Nat) (w : World) (hp : p < 256) (hq : q < 256) (hr : r < 256) (hs : s < 256) (hw : ¬ 255 < (opAt p).n) (hn : ¬ 0 < (opAt p).n) (ho : okB p = true) (hm : mayB (decI p q r s) = false) :
  Calls Tryz.prog 233 #[.agg #[.int .u8 p, .int .u8 q, .int .u8 r, .int .u8 s]] w fun e w' => e = .returned (.tuple #[.agg #[.int .u8 0, .int .u8 0, .int .u8 0, .int .u8 0, .int .i64 0], .int .i64 190]) ∧ Chg Non w w' := by
 have HE := Lib.hid (fun w => Encode_no (decI p q r s) w hm)
 rw [dec_n p q r s hw hn] at HE
 clear hm
 have HO := Lib.hid (fun w => of_any p w)
 rw [ho] at HO
 clear ho
 obtain ⟨F, hF⟩ : ∃ F, opAt p = F := ⟨_, rfl⟩
 rw [hF] at hw HO hn
 clear hF
 have hop : opC F = #[.string ⟨F.name.toArray⟩, .bool F.a, .bool F.b, .bool F.c, .int .i64 F.n] := rfl
 rw [hop] at HO
 clear hop
 have e1 : decide ((F.n : Int) > 255) = false := by simp; omega
 have e2 : decide ((F.n : Int) > 0) = false := by simp; omega
 clear hp hq
 go_enter Tryz.func233, Tryz.ntmps233
 go_wp2_with fail
 refine (HO.out _).mono ?_
 rintro e w' ⟨rfl, hg⟩
 have HG : Hid (Chg Non w w') := Lib.hid ((((Chg.refl Non w).alloc _).alloc _).then_non hg)
 have HB := Lib.hid (enc_blk hg)
 have HC : Hid (Cells4 w' w.heap.size _ _ _ _) := Lib.hid (cells4 w w' _ _ _ _ _ (((Chg.refl Non _).alloc _).then_non hg))
 obtain ⟨hz, c0, c1, c2, c3⟩ := HC.out
 clear hg
 go_wp2_with fail
 refine (HE.out _).mono ?_
 rintro e w2 ⟨rfl, hg⟩
 have HZ2 := Lib.hid (z_lt (((Chg.refl Non _).alloc _).alloc _) hg hz)
 have HX := Lib.hid (dec_blk hg)
 have HG2 : Hid (Chg Non w w2) := Lib.hid ((((HG.out).alloc _).alloc _).then_non hg)
 have HB2 := Lib.hid (blockN ((((Chg.refl Non _).alloc _).alloc _).then_non hg) HB.out)
 clear hz c0 c1 c2 c3
 obtain ⟨hz, c0, c1, c2, c3⟩ := HC.out.non ((((Chg.refl Non _).alloc _).alloc _).then_non hg)
 obtain ⟨hz5, x0, x1, x2, x3, x4⟩ := HX.out
 have hzz := HZ2.out
 clear hg
 go_wp2_with (first
   | (refine sel none (.store 143 (.tmp 2) (.tmp 66)) ?_
      refine wpList_store_rowA rfl 143 (.tmp 2) (.tmp 66) rfl (w.heap.size + 1) #[.int .u8 0, .int .u8 0, .int .u8 0, .int .u8 0, .int .i64 0] rfl rfl 143 _ (blockN ((Chg.refl Non _).alloc _) HB2.out) info_ins rfl (by simp [Value.oneCell']) ?_
      intro W hgW hbW
      have HBW := Lib.hid hbW
      have HGW := Lib.hid hgW
      clear hbW hgW))
 exact bodyPost_ret (results_ct Tryz.results233 _ _ (w.heap.size + 1) 143 _ (0, 0) _ (.int .i64 190) rfl rfl HBW.out Tryz.underlying143 rfl info_ins) rfl ⟨rfl, ((HG2.out).alloc _).then_new HGW.out (fun x e => by omega)⟩
set_option maxRecDepth 100000 in
theorem Decode_x0 (p q r s : Nat) (w : World) (hp : p < 256) (hq : q < 256) (hr : r < 256) (hs : s < 256) (hw : ¬ 255 < (opAt p).n) (hn : ¬ 0 < (opAt p).n) (ho : okB p = false) (hm : mayB (decI p q r s) = false) :
  Calls Tryz.prog 233 #[.agg #[.int .u8 p, .int .u8 q, .int .u8 r, .int .u8 s]] w fun e w' => e = .returned (.tuple #[.agg #[.int .u8 0, .int .u8 0, .int .u8 0, .int .u8 0, .int .i64 0], .int .i64 190]) ∧ Chg Non w w' := by
 have HE := Lib.hid (fun w => Encode_no (decI p q r s) w hm)
 rw [dec_n p q r s hw hn] at HE
 clear hm
 have HO := Lib.hid (fun w => of_any p w)
 rw [ho] at HO
 clear ho
 obtain ⟨F, hF⟩ : ∃ F, opAt p = F := ⟨_, rfl⟩
 rw [hF] at hw HO hn
 clear hF
 have hop : opC F = #[.string ⟨F.name.toArray⟩, .bool F.a, .bool F.b, .bool F.c, .int .i64 F.n] := rfl
 rw [hop] at HO
 clear hop
 have e1 : decide ((F.n : Int) > 255) = false := by simp; omega
 have e2 : decide ((F.n : Int) > 0) = false := by simp; omega
 clear hp hq
 go_enter Tryz.func233, Tryz.ntmps233
 go_wp2_with fail
 refine (HO.out _).mono ?_
 rintro e w' ⟨rfl, hg⟩
 have HG : Hid (Chg Non w w') := Lib.hid ((((Chg.refl Non w).alloc _).alloc _).then_non hg)
 have HB := Lib.hid (enc_blk hg)
 have HC : Hid (Cells4 w' w.heap.size _ _ _ _) := Lib.hid (cells4 w w' _ _ _ _ _ (((Chg.refl Non _).alloc _).then_non hg))
 obtain ⟨hz, c0, c1, c2, c3⟩ := HC.out
 clear hg
 go_wp2_with fail
 refine (HE.out _).mono ?_
 rintro e w2 ⟨rfl, hg⟩
 have HZ2 := Lib.hid (z_lt (((Chg.refl Non _).alloc _).alloc _) hg hz)
 have HX := Lib.hid (dec_blk hg)
 have HG2 : Hid (Chg Non w w2) := Lib.hid ((((HG.out).alloc _).alloc _).then_non hg)
 have HB2 := Lib.hid (blockN ((((Chg.refl Non _).alloc _).alloc _).then_non hg) HB.out)
 clear hz c0 c1 c2 c3
 obtain ⟨hz, c0, c1, c2, c3⟩ := HC.out.non ((((Chg.refl Non _).alloc _).alloc _).then_non hg)
 obtain ⟨hz5, x0, x1, x2, x3, x4⟩ := HX.out
 have hzz := HZ2.out
 clear hg
 go_wp2_with (first
   | (refine sel none (.store 143 (.tmp 2) (.tmp 66)) ?_
      refine wpList_store_rowA rfl 143 (.tmp 2) (.tmp 66) rfl (w.heap.size + 1) #[.int .u8 0, .int .u8 0, .int .u8 0, .int .u8 0, .int .i64 0] rfl rfl 143 _ (blockN ((Chg.refl Non _).alloc _) HB2.out) info_ins rfl (by simp [Value.oneCell']) ?_
      intro W hgW hbW
      have HBW := Lib.hid hbW
      have HGW := Lib.hid hgW
      clear hbW hgW))
 exact bodyPost_ret (results_ct Tryz.results233 _ _ (w.heap.size + 1) 143 _ (0, 0) _ (.int .i64 190) rfl rfl HBW.out Tryz.underlying143 rfl info_ins) rfl ⟨rfl, ((HG2.out).alloc _).then_new HGW.out (fun x e => by omega)⟩
theorem ok_of_n (p : Nat) (h : 0 < (opAt p).n) : okB p = true := by
 by_cases h1 : 22 ≤ p
 ·rw [opAt_big p h1] at h; cases h
 ·by_cases h2 : p = 0
  ·subst h2; cases h
  ·simp [okB]; omega
theorem Decode_ok (p q r s : Nat) (w : World) (hp : p < 256) (hq : q < 256) (hr : r < 256) (hs : s < 256) (hm : mayB (decI p q r s) = true) :
  Calls Tryz.prog 233 #[.agg #[.int .u8 p, .int .u8 q, .int .u8 r, .int .u8 s]] w fun e w' => e = .returned (.tuple #[.agg (insC (decI p q r s)), .int .i64 0]) ∧ Chg Non w w' := by
 have ho : okB p = true := by
  have := ((mayB_iff _).1 hm).1
  rw [dec_op] at this
  simp [okB, this.1, this.2]
 by_cases hw : 255 < (opAt p).n
 ·exact Decode_w1 p q r s w hp hq hr hs hw ho hm
 ·by_cases hn : 0 < (opAt p).n
  ·exact Decode_s1 p q r s w hp hq hr hs hw hn ho hm
  ·exact Decode_n1 p q r s w hp hq hr hs hw hn ho hm
theorem Decode_no (p q r s : Nat) (w : World) (hp : p < 256) (hq : q < 256) (hr : r < 256) (hs : s < 256) (hm : mayB (decI p q r s) = false) :
  Calls Tryz.prog 233 #[.agg #[.int .u8 p, .int .u8 q, .int .u8 r, .int .u8 s]] w fun e w' => e = .returned (.tuple #[.agg (insC Ins.zero), .int .i64 190]) ∧ Chg Non w w' := by
 by_cases hw : 255 < (opAt p).n
 ·exact Decode_w0 p q r s w hp hq hr hs hw (ok_of_n p (by omega)) hm
 ·by_cases hn : 0 < (opAt p).n
  ·exact Decode_s0 p q r s w hp hq hr hs hw hn (ok_of_n p (by omega)) hm
  ·cases ho : okB p with
   | true => exact Decode_n0 p q r s w hp hq hr hs hw hn ho hm
   | false => exact Decode_x0 p q r s w hp hq hr hs hw hn ho hm
end
section
open Go.RowKit
theorem heap_setCell1 {w : World} {g : Nat} {x : Value} {t : TypeId} (u : Value) (h : w.heap[g]? = some (.cells #[x] t (0, 0))) : (w.setCell ⟨g, 0, none⟩ u).heap[g]? = some (.cells #[u] t (0, 0)) := by
 have := one_setCell (w := w) (u := u) h
 exact this
theorem g_stepS {P : Program} {ops : Array Oper} {Q : Exit → Act → World → Prop} {i : Nat} {K : Act → World → Prop} {a : Act} {w : World} (w' : World) {oi : Oper} (hi : ops[i]? = some oi) (hdst : oi.dst = none) (hw : Region.wanted oi (yielded ops a.tmps) = true) (he : (execOp a.eval oi).run P w = .ok .skip w') (h : K a w') : wpOp P ops Q i K a w := by
 have hput : a.put oi.dst undef = a := by rw [hdst]; rfl
 unfold wpOp
 simp only [hi, hw, if_true, Oper.wp, he, Oper.upon, hput]
 exact .inl h
structure Wds (w0 w : World) (pw : Nat) (l : List (List UInt8)) : Prop where
 chg : Chg Non w0 w
 ge : w0.heap.size ≤ pw
 row : ∃ v, w.heap[pw]? = some (.cells #[v] 100 (0, 0)) ∧ OwnS w0.heap.size w v l ∧ v.ownBlock ≠ some pw
 len : l.length ≤ 100
theorem Wds.lt {w0 w : World} {pw : Nat} {l : List (List UInt8)} (h : Wds w0 w pw l) : pw < w.heap.size := by
 obtain ⟨v, h1, h2, h3⟩ := h.row
 exact (Array.getElem?_eq_some_iff.1 h1).1
structure AppEnd (w0 w w4 : World) (pw : Nat) (v2 : Value) (l : List (List UInt8)) : Prop where
 chg : Chg (fun k => w0.heap.size ≤ k) w w4
 blk : ∃ x, w4.heap[pw]? = some (.cells #[x] 100 (0, 0))
 own : OwnS w0.heap.size w4 v2 l
 ne : v2.ownBlock ≠ some pw
 ge : w0.heap.size ≤ pw
 form : ∃ g n c, v2 = .slice g n c
theorem app_end {w0 w w3 w4 : World} {pw : Nat} {v v2 : Value} {l' : List (List UInt8)} (hB : w0.heap.size ≤ w.heap.size) (hp : w0.heap.size ≤ pw) (h3 : Chg Non w w3) (hv : w.heap[pw]? = some (.cells #[v] 100 (0, 0))) (hne : v.ownBlock ≠ some pw)
  (ho : OwnS w0.heap.size w4 v2 l') (hg : Chg (fun k => v.ownBlock = some k) w3 w4) (hat : v2.ownBlock = v.ownBlock ∨ v2.ownBlock = some w3.heap.size) (hge : ∀ g, v.ownBlock = some g → w0.heap.size ≤ g) :
  AppEnd w0 w w4 pw v2 l' := by
 have hlt : pw < w.heap.size := (Array.getElem?_eq_some_iff.1 hv).1
 have h3s := h3.size
 refine ⟨h3.of_non.trans hg (fun x h => h) (fun x _ h => hge x h), ⟨v, ?_⟩, ho, ?_, hp, by obtain ⟨A, c, e, _⟩ := ho.rd; exact ⟨A, _, c, e⟩⟩
 ·exact (hg.block pw (by omega) (fun e => hne e)).trans (blockN h3 hv)
 ·rcases hat with h | h
  ·rw [h]; exact hne
  ·rw [h]
   intro e
   injection e with e
   omega
def WdsT (w0 w w' : World) (pw : Nat) (l : List (List UInt8)) : Prop :=
 Chg (fun k => w0.heap.size ≤ k) w w' ∧ ∃ v, w'.heap[pw]? = some (.cells #[v] 100 (0, 0)) ∧ OwnS w0.heap.size w' v l ∧ v.ownBlock ≠ some pw
theorem wds_store {w0 w w4 : World} {pw : Nat} {v2 : Value} {l : List (List UInt8)} (h : AppEnd w0 w w4 pw v2 l) : WdsT w0 w (w4.setCell ⟨pw, 0, none⟩ v2) pw l := by
 obtain ⟨x, hx⟩ := h.blk
 refine ⟨h.chg.setCell (p := ⟨pw, 0, none⟩) (.inl h.ge) v2, v2, heap_setCell1 v2 hx, h.own.keep ((Chg.refl (fun k => k = pw) w4).setCell (p := ⟨pw, 0, none⟩) (.inl rfl) v2) (fun g hg e => h.ne (by rw [hg, e])), h.ne⟩
set_option maxRecDepth 100000 in
theorem add_yes (w0 w : World) (pw : Nat) (l : List (List UInt8)) (n : Int) (hE : Env w0) (hW : Wds w0 w pw l) (h0 : -9223372036854775808 ≤ n) (h1 : n ≤ 9223372036854775807) :
  Calls Tryz.prog 136 #[.bool true, .int .i64 n, .pointer (some ⟨pw, 0, none⟩)] w fun e w' => e = .returned (.tuple #[]) ∧ WdsT w0 w w' pw (l ++ [Lib.itoa n]) := by
 have HI : Hid (∀ W, Chg Non w W → Calls Tryz.prog 137 #[.int .i64 n] W fun e w' => e = .returned (mkStr (Lib.itoa n)) ∧ Chg Non W w') := Lib.hid (fun W hg => itoa_ok n W ((hE.non hW.chg).non hg) h0 h1)
 have HPW := Lib.hid hW.ge
 have hB := Lib.hid hW.chg.size
 have hlt := hW.lt
 have hlen := hW.len
 obtain ⟨v, hv, ho, hne⟩ := hW.row
 have HV := Lib.hid hv
 have HO := Lib.hid ho
 replace hne := Lib.hid hne
 clear hv ho h0 h1 hE hW
 go_enter Tryz.func136, Tryz.ntmps136
 go_wp2
 refine wp_region_any (by kernel_rfl) ?_
 refine g_two 0 1 (by kernel_rfl) ?_ ?_
 ·have hc0 := cell_of_one (blockN ((Chg.refl Non w).drew) HV.out)
  refine g_pure (some 6) v rfl (by kernel_rfl) (by kernel_rfl) (by go_simp) ?_
  simp only [Act.put, sA, sB, sC]
  clear hc0
  refine g_one 1 (by kernel_rfl) ?_
  refine g_pure (some 7) (.int .i64 n) rfl (by kernel_rfl) (by kernel_rfl) (by go_simp) ?_
  simp only [Act.put, sA, sB, sC]
  refine g_one 2 (by kernel_rfl) ?_
  refine g_any rfl (by kernel_rfl) (fun K' hK' => ?_)
  go_simp
  refine (HI.out _ ((Chg.refl Non w).drew)).mono ?_
  rintro e w2 ⟨rfl, hg2⟩
  refine hK' _ _ ?_
  clear hK' K'
  have HG2 : Hid (Chg Non w w2) := Lib.hid ((((Chg.refl Non w).drew).then_non hg2))
  clear hg2
  refine g_one 3 (by kernel_rfl) ?_
  refine g_step (some 9) (.slice (some ⟨w2.heap.size, 0, none⟩) 1 1) (w2.alloc (.cells #[mkStr (Lib.itoa n)] 9)) rfl (by kernel_rfl) (by kernel_rfl) (by kernel_rfl) ?_
  simp only [Act.put, sA, sB, sC]
  refine g_one 4 (by kernel_rfl) ?_
  refine g_any rfl (by kernel_rfl) (fun K' hK' => ?_)
  refine wp_snocS (.tmp 6) (.tmp 9) rfl w0.heap.size v l rfl (HO.out.non (HG2.out.alloc _)) w2.heap.size (Lib.itoa n) rfl (cell_of_one (heap_alloc_new _ _)) (by omega) (by have h1 := hB.out; have h2 := HG2.out.size; simp; omega) ?_
  intro v2 w4 ho4 hg4 hat
  refine hK' _ _ ?_
  clear hK' K'
  have HX : Hid (AppEnd w0 w w4 pw v2 (l ++ [Lib.itoa n])) := Lib.hid (app_end hB.out HPW.out (HG2.out.alloc _) HV.out hne.out ho4 hg4 hat (fun g hg => HO.out.ge hg))
  clear ho4 hg4 hat
  refine g_one 5 (by kernel_rfl) ?_
  obtain ⟨ox, hbx⟩ := HX.out.blk
  have hc4 := cell_of_one hbx
  have hf4 := free_of_one hbx
  obtain ⟨vg, vn, vc, hv2⟩ := HX.out.form
  subst hv2
  refine g_stepS (w4.setCell ⟨pw, 0, none⟩ (.slice vg vn vc)) rfl rfl (by kernel_rfl) (by go_simp) ?_
  clear hc4 hf4
  refine wpAny_done (by kernel_rfl) ?_ _
  have HS := Lib.hid (wds_store HX.out)
  go_end0
  exact ⟨rfl, HS.out⟩
 ·refine g_pure (some 7) (.int .i64 n) rfl (by kernel_rfl) (by kernel_rfl) (by go_simp) ?_
  simp only [Act.put, sA, sB, sC]
  refine g_two 0 2 (by kernel_rfl) ?_ ?_
  ·have hc0 := cell_of_one (blockN ((Chg.refl Non w).drew) HV.out)
   refine g_pure (some 6) v rfl (by kernel_rfl) (by kernel_rfl) (by go_simp) ?_
   simp only [Act.put, sA, sB, sC]
   clear hc0
   refine g_one 2 (by kernel_rfl) ?_
   refine g_any rfl (by kernel_rfl) (fun K' hK' => ?_)
   go_simp
   refine (HI.out _ ((Chg.refl Non w).drew)).mono ?_
   rintro e w2 ⟨rfl, hg2⟩
   refine hK' _ _ ?_
   clear hK' K'
   have HG2 : Hid (Chg Non w w2) := Lib.hid ((((Chg.refl Non w).drew).then_non hg2))
   clear hg2
   refine g_one 3 (by kernel_rfl) ?_
   refine g_step (some 9) (.slice (some ⟨w2.heap.size, 0, none⟩) 1 1) (w2.alloc (.cells #[mkStr (Lib.itoa n)] 9)) rfl (by kernel_rfl) (by kernel_rfl) (by kernel_rfl) ?_
   simp only [Act.put, sA, sB, sC]
   refine g_one 4 (by kernel_rfl) ?_
   refine g_any rfl (by kernel_rfl) (fun K' hK' => ?_)
   refine wp_snocS (.tmp 6) (.tmp 9) rfl w0.heap.size v l rfl (HO.out.non (HG2.out.alloc _)) w2.heap.size (Lib.itoa n) rfl (cell_of_one (heap_alloc_new _ _)) (by omega) (by have h1 := hB.out; have h2 := HG2.out.size; simp; omega) ?_
   intro v2 w4 ho4 hg4 hat
   refine hK' _ _ ?_
   clear hK' K'
   have HX : Hid (AppEnd w0 w w4 pw v2 (l ++ [Lib.itoa n])) := Lib.hid (app_end hB.out HPW.out (HG2.out.alloc _) HV.out hne.out ho4 hg4 hat (fun g hg => HO.out.ge hg))
   clear ho4 hg4 hat
   refine g_one 5 (by kernel_rfl) ?_
   obtain ⟨ox, hbx⟩ := HX.out.blk
   have hc4 := cell_of_one hbx
   have hf4 := free_of_one hbx
   obtain ⟨vg, vn, vc, hv2⟩ := HX.out.form
   subst hv2
   refine g_stepS (w4.setCell ⟨pw, 0, none⟩ (.slice vg vn vc)) rfl rfl (by kernel_rfl) (by go_simp) ?_
   clear hc4 hf4
   refine wpAny_done (by kernel_rfl) ?_ _
   have HS := Lib.hid (wds_store HX.out)
   go_end0
   exact ⟨rfl, HS.out⟩
  ·refine g_any rfl (by kernel_rfl) (fun K' hK' => ?_)
   go_simp
   refine (HI.out _ ((Chg.refl Non w).drew)).mono ?_
   rintro e w2 ⟨rfl, hg2⟩
   refine hK' _ _ ?_
   clear hK' K'
   have HG2 : Hid (Chg Non w w2) := Lib.hid ((((Chg.refl Non w).drew).then_non hg2))
   clear hg2
   refine g_two 0 3 (by kernel_rfl) ?_ ?_
   ·have hc0 := cell_of_one (blockN (HG2.out) HV.out)
    refine g_pure (some 6) v rfl (by kernel_rfl) (by kernel_rfl) (by go_simp) ?_
    simp only [Act.put, sA, sB, sC]
    clear hc0
    refine g_one 3 (by kernel_rfl) ?_
    refine g_step (some 9) (.slice (some ⟨w2.heap.size, 0, none⟩) 1 1) (w2.alloc (.cells #[mkStr (Lib.itoa n)] 9)) rfl (by kernel_rfl) (by kernel_rfl) (by kernel_rfl) ?_
    simp only [Act.put, sA, sB, sC]
    refine g_one 4 (by kernel_rfl) ?_
    refine g_any rfl (by kernel_rfl) (fun K' hK' => ?_)
    refine wp_snocS (.tmp 6) (.tmp 9) rfl w0.heap.size v l rfl (HO.out.non (HG2.out.alloc _)) w2.heap.size (Lib.itoa n) rfl (cell_of_one (heap_alloc_new _ _)) (by omega) (by have h1 := hB.out; have h2 := HG2.out.size; simp; omega) ?_
    intro v2 w4 ho4 hg4 hat
    refine hK' _ _ ?_
    clear hK' K'
    have HX : Hid (AppEnd w0 w w4 pw v2 (l ++ [Lib.itoa n])) := Lib.hid (app_end hB.out HPW.out (HG2.out.alloc _) HV.out hne.out ho4 hg4 hat (fun g hg => HO.out.ge hg))
    clear ho4 hg4 hat
    refine g_one 5 (by kernel_rfl) ?_
    obtain ⟨ox, hbx⟩ := HX.out.blk
    have hc4 := cell_of_one hbx
    have hf4 := free_of_one hbx
    obtain ⟨vg, vn, vc, hv2⟩ := HX.out.form
    subst hv2
    refine g_stepS (w4.setCell ⟨pw, 0, none⟩ (.slice vg vn vc)) rfl rfl (by kernel_rfl) (by go_simp) ?_
    clear hc4 hf4
    refine wpAny_done (by kernel_rfl) ?_ _
    have HS := Lib.hid (wds_store HX.out)
    go_end0
    exact ⟨rfl, HS.out⟩
   ·refine g_step (some 9) (.slice (some ⟨w2.heap.size, 0, none⟩) 1 1) (w2.alloc (.cells #[mkStr (Lib.itoa n)] 9)) rfl (by kernel_rfl) (by kernel_rfl) (by kernel_rfl) ?_
    simp only [Act.put, sA, sB, sC]
    refine g_one 0 (by kernel_rfl) ?_
    have hc0 := cell_of_one (blockN (HG2.out.alloc (.cells #[mkStr (Lib.itoa n)] 9)) HV.out)
    refine g_pure (some 6) v rfl (by kernel_rfl) (by kernel_rfl) (by go_simp) ?_
    simp only [Act.put, sA, sB, sC]
    clear hc0
    refine g_one 4 (by kernel_rfl) ?_
    refine g_any rfl (by kernel_rfl) (fun K' hK' => ?_)
    refine wp_snocS (.tmp 6) (.tmp 9) rfl w0.heap.size v l rfl (HO.out.non (HG2.out.alloc _)) w2.heap.size (Lib.itoa n) rfl (cell_of_one (heap_alloc_new _ _)) (by omega) (by have h1 := hB.out; have h2 := HG2.out.size; simp; omega) ?_
    intro v2 w4 ho4 hg4 hat
    refine hK' _ _ ?_
    clear hK' K'
    have HX : Hid (AppEnd w0 w w4 pw v2 (l ++ [Lib.itoa n])) := Lib.hid (app_end hB.out HPW.out (HG2.out.alloc _) HV.out hne.out ho4 hg4 hat (fun g hg => HO.out.ge hg))
    clear ho4 hg4 hat
    refine g_one 5 (by kernel_rfl) ?_
    obtain ⟨ox, hbx⟩ := HX.out.blk
    have hc4 := cell_of_one hbx
    have hf4 := free_of_one hbx
    obtain ⟨vg, vn, vc, hv2⟩ := HX.out.form
    subst hv2
    refine g_stepS (w4.setCell ⟨pw, 0, none⟩ (.slice vg vn vc)) rfl rfl (by kernel_rfl) (by go_simp) ?_
    clear hc4 hf4
    refine wpAny_done (by kernel_rfl) ?_ _
    have HS := Lib.hid (wds_store HX.out)
    go_end0
    exact ⟨rfl, HS.out⟩
set_option maxRecDepth 100000 in
theorem add_no (n : Int) (p : Option Addr) (w : World) :
  Calls Tryz.prog 136 #[.bool false, .int .i64 n, .pointer p] w fun e w' => e = .returned (.tuple #[]) ∧ w = w' := by
 go_enter Tryz.func136, Tryz.ntmps136
 go_wp2
 go_end0
 exact ⟨rfl, rfl⟩
theorem WdsT.wds {w0 w w' : World} {pw : Nat} {l : List (List UInt8)} (h : WdsT w0 w w' pw l) (h0 : Chg Non w0 w) (hp : w0.heap.size ≤ pw) (hl : l.length ≤ 100) : Wds w0 w' pw l :=
 ⟨h0.then_new h.1 (fun x hx => hx), hp, h.2, hl⟩
theorem add_any (w0 w : World) (pw : Nat) (l : List (List UInt8)) (has : Bool) (n : Int) (hE : Env w0) (hW : Wds w0 w pw l) (h0 : -9223372036854775808 ≤ n) (h1 : n ≤ 9223372036854775807) (hl : l.length < 100) :
  Calls Tryz.prog 136 #[.bool has, .int .i64 n, .pointer (some ⟨pw, 0, none⟩)] w fun e w' => e = .returned (.tuple #[]) ∧ Wds w0 w' pw (l ++ wordIf has n) := by
 cases has with
 | true =>
  refine (add_yes w0 w pw l n hE hW h0 h1).mono fun e w' ⟨he, h⟩ => ⟨he, h.wds hW.chg hW.ge (by simp; omega)⟩
 | false =>
  refine (add_no n _ w).mono fun e w' ⟨he, h⟩ => ⟨he, ?_⟩
  subst h
  simpa [wordIf] using hW
theorem join_ok (A : Option Addr) (c : Nat) (l : List (List UInt8)) (sep : List UInt8) (w : World) (h : RdS w A l) (hne : l ≠ []) (hc : l.length ≤ c) (hl : l.length ≤ 1000000) (hlen : (Lib.join l sep).length ≤ 140737488355328) :
  Calls Tryz.prog 138 #[.slice A l.length c, .string ⟨sep.toArray⟩] w fun e w' => e = .returned (mkStr (Lib.join l sep)) ∧ Chg Non w w' := by
 obtain ⟨x0, r, rfl⟩ := List.exists_cons_of_ne_nil hne
 obtain ⟨b, o, rfl, hc0⟩ := h 0 x0 rfl
 have hb := lt_of_cell hc0
 have hm : ((x0 :: r).map (fun x => (⟨x.toArray⟩ : ByteArray))).map (·.data.toList) = x0 :: r := by simp [Function.comp_def]
 have hx := Tryz.strings_Join b o c ((x0 :: r).map fun x => (⟨x.toArray⟩ : ByteArray)) ⟨sep.toArray⟩ w (by
   intro j x hj
   rw [List.getElem?_map] at hj
   obtain ⟨y, hy, rfl⟩ := Option.map_eq_some_iff.1 hj
   obtain ⟨b', o', e, hcj⟩ := h j y hy
   injection e with e
   injection e with e1 e2
   subst e1 e2
   exact hcj) hb (by rw [List.length_map]; omega) (by rw [List.length_map]; exact hc) (by rw [hm]; simpa using hlen)
 rw [hm, List.length_map] at hx
 refine hx.mono fun e w' ⟨he, hbl⟩ => ⟨?_, Chg.of_below hbl (Nat.le_refl _)⟩
 rw [he]
 simp [mkStr]
end
end Go.Proofs.YtmnaleaghfbclaaGreatDoor
