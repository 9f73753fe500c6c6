/- Commit records: the statements' rows (a disk with records, one behind the other). -/
import Derived.Test.YthhbdejagglgbaaGreatRecGap
import Derived.Test.YthhbdejagglgbaaGreatRecSl
namespace Go.Proofs.YthhbdejagglgbaaGreat
open Go.RowKit
set_option linter.unusedVariables false

/-- the k-th record, renumbered -/
def rN (f : Int) (l : List Rec) (k : Nat) : Rec := { (l.getD k Rec.zero) with seqn := f + k }
/-- the two sectors' records behind k Puts -/
def stAt (f : Int) (l : List Rec) : Nat → Rec × Rec
  | 0 => (Rec.zero, Rec.zero)
  | k + 1 => if (f + k) % 2 = 0 then (rN f l k, (stAt f l k).2) else ((stAt f l k).1, rN f l k)
/-- the cells of the first k -/
def rCells (f : Int) (l : List Rec) (k : Nat) : List Value := ((List.range k).map fun i => (recA (rN f l i)).toList).flatten

theorem rCells_succ (f : Int) (l : List Rec) (k : Nat) : rCells f l (k + 1) = rCells f l k ++ (recA (rN f l k)).toList := by
  unfold rCells
  rw [List.range_succ, List.map_append, List.flatten_append]
  simp
theorem stAt_succ (f : Int) (l : List Rec) (k : Nat) : stAt f l (k + 1) = if (f + k) % 2 = 0 then (rN f l k, (stAt f l k).2) else ((stAt f l k).1, rN f l k) := rfl
theorem own_ge {w : World} {B : Nat} {e : TypeId} {size : Nat} {v : Value} {n : Nat} {xs : List Value} {x : Nat} (h : w.ownsRow B e size v n xs) (hx : v.ownBlock = some x) : B ≤ x := by
  rcases h.2 with h0 | ⟨g, cap, cur, rfl, hb, hh, h4⟩
  · exact absurd hx (by simp [h0, Value.ownBlock])
  · obtain rfl : g = x := by simpa [Value.ownBlock] using hx
    exact hb
theorem recA_renum (r : Rec) (n : Int) : (recA r).setIfInBounds 0 (.int .i64 n) = recA { r with seqn := n } := by
  unfold recA
  apply Array.ext_getElem?
  intro i
  rw [Array.getElem?_setIfInBounds]
  by_cases hi : 0 = i
  · subst hi
    rw [if_pos rfl, if_pos (by simp; omega), Array.getElem?_append_left (by simp)]
    rfl
  · rw [if_neg hi]
    by_cases h4 : i < 4
    · rw [Array.getElem?_append_left (by simpa using h4), Array.getElem?_append_left (by simpa using h4)]
      have : i = 1 ∨ i = 2 ∨ i = 3 := by omega
      rcases this with rfl | rfl | rfl <;> rfl
    · rw [Array.getElem?_append_right (by simp; omega), Array.getElem?_append_right (by simp; omega)]
      rfl

theorem fold_all (C X : Array Value) (h0 : C.size = 36) (h : X.size = 36) : Array.foldl (fun (cs : Array Value) (x : Value × Nat) => cs.setIfInBounds x.2 x.1) C X.zipIdx 0 36 = X := by
  have e : 36 = X.zipIdx.size := by simp [h]
  rw [e, ← Array.foldl_toList, Array.toList_zipIdx]
  apply Array.ext_getElem?
  intro i
  have := fold_set_get 0 X.toList 0 C i
  simp only [Nat.zero_add] at this
  rw [this, h0, Array.length_toList, h]
  by_cases hi : i < 36
  · rw [if_pos ⟨by omega, hi, hi⟩, Array.getElem?_toList]; rfl
  · rw [if_neg (by omega), Array.getElem?_eq_none (by omega), Array.getElem?_eq_none (by omega)]

theorem own_keep {S : Nat → Prop} {w w' : World} {B : Nat} {e : TypeId} {size : Nat} {v : Value} {n : Nat} {xs : List Value} (h : w.ownsRow B e size v n xs) (hg : Chg S w w') (hn : ∀ g, v.ownBlock = some g → ¬ S g) : w'.ownsRow B e size v n xs := by
  refine ⟨h.1, ?_⟩
  rcases h.2 with h0 | ⟨g, cap, cur, rfl, hb, hh, h4⟩
  · exact .inl h0
  · exact .inr ⟨g, cap, cur, rfl, hb, (hg.block g (Array.getElem?_eq_some_iff.1 hh).1 (hn g rfl)).trans hh, h4⟩
theorem info_recs : (Tryz.prog.info? 25).map (fun i => (i.zero, i.size, i.bytes)) = some (some (.agg recZ), 36, 64) := by kernel_rfl

/-- a walk stops here -/
structure Hole (p : Prop) : Prop where
  out : p
/-- what holds at the head of rows' loop -/
def RowsInv (f : Int) (l : List Rec) (B : Option Addr) (w : World) (pd ps pm k : Nat) (v : Value) (wr : World) : Prop :=
  KeptC w wr pd ps pm 3 (stAt f l k).1 (stAt f l k).2 ∧ wr.ownsRow w.heap.size 25 36 v k (rCells f l k) ∧ (∀ g, v.ownBlock = some g → g ≠ pd ∧ g ≠ ps ∧ g ≠ pm) ∧ RdR wr B l ∧ ∀ i, i < k → (rN f l i).may = true

/-- what rows answers: no (a record that may not be), or the disk with the records and the renumbered list -/
def RowsPost (f : Int) (l : List Rec) (B : Option Addr) (w : World) (e : Ending) (w' : World) : Prop :=
  (∃ k, k < l.length ∧ (rN f l k).may = false ∧ e = .returned (.tuple #[.pointer none, .slice none 0 0, .bool false]) ∧ Chg Non w w') ∨
  (∃ pd ps pm v, e = .returned (.tuple #[.pointer (some ⟨pd, 0, none⟩), v, .bool true]) ∧ RowsInv f l B w pd ps pm l.length v w')

set_option maxRecDepth 100000 in
set_option maxHeartbeats 4000000 in
theorem rows_any (f : Int) (B : Option Addr) (l : List Rec) (c : Nat) (w : World) (hB : RdR w B l) (hok : ∀ r ∈ l, r.Ok) (h1 : 1 ≤ f) (h2 : f ≤ 1099511627776) (h3 : l.length ≤ 20) :
    Calls Tryz.prog 12 #[.int .i64 f, .slice B l.length c] w (RowsPost f l B w) := by
  have HR0 := Lib.hid hB
  have HN := Lib.hid (fun W => keptC_new w W 3 (by omega) (by omega))
  have d1 : decide (f < 1) = false := by simp; omega
  have d2 : decide (f > 1099511627776) = false := by simp; omega
  have d3 : decide ((l.length : Int) > 20) = false := by simp; omega
  go_enter Tryz.func12, Tryz.ntmps12
  go_wp2_with fail
  refine (HN.out _ (Chg.refl _ _)).mono ?_
  rintro e w1 ⟨pd, ps, pm, rfl, k1, hg1⟩
  have K1 := Lib.hid k1
  have hR1 := Lib.hid (hB.non hg1)
  clear k1 hB
  go_wp2_with fail
  go_loopw [9, 10] (fun v i wr => ∃ k : Nat, k ≤ l.length ∧ i = .int .i64 k ∧ RowsInv f l B w pd ps pm k v wr) (fun _ i _ => l.length - (intOf i).toNat)
  case atStart => exact ⟨0, by omega, rfl, K1.out, World.ownsRow_nil _ _ _ _, (fun g h => by simp [Value.ownBlock] at h), hR1.out, fun i hi => absurd hi (by omega)⟩
  case round =>
    obtain ⟨k, hk, rfl, hI⟩ := hrel
    have HI := Lib.hid hI
    clear hI
    by_cases hlt : k < l.length
    · obtain ⟨b, o, rfl, hbl, hrg⟩ := HI.out.2.2.2.1.at_ (by omega)
      have HRg := Lib.hid (hrg k hlt)
      clear hrg
      have hadd : IntKind.i64.wrap (f + (k : Int)) = f + k := Go.IntWalk.i64_in _ (by omega)
      have hadd2 : wrap64 (f + (k : Int)) = f + k := by unfold wrap64; omega
      have HS := Lib.hid (recA_size l[k] (hok _ (List.getElem_mem hlt)).1)
      have HO := Lib.hid (recA_one l[k])
      have HC := Lib.hid (recA_0 l[k])
      obtain ⟨X, hX⟩ : ∃ X, recA l[k] = X := ⟨_, rfl⟩
      rw [hX] at HRg HS HO HC
      have HX := Lib.hid hX
      clear hX
      have hN : (recA l[k]).setIfInBounds 0 (.int .i64 (f + k)) = recA (rN f l k) := by
        rw [recA_renum]; unfold rN; rw [List.getD, List.getElem?_eq_getElem hlt, Option.getD_some]
      have hNh : (rN f l k).hash.length = 32 := by unfold rN; rw [List.getD, List.getElem?_eq_getElem hlt, Option.getD_some]; exact (hok _ (List.getElem_mem hlt)).1
      have hNs : (rN f l k).seqn ≤ 9223372036854775807 := by show f + (k : Int) ≤ _; omega
      by_cases hm : (rN f l k).may = true
      · have hP := fun W h => keptC_put (w0 := w) (w := W) (pd := pd) (ps := ps) (pm := pm) (n := 3) (a := (stAt f l k).1) (b := (stAt f l k).2) h (rN f l k) hm hNh hNs
        have HSN := Lib.hid (recA_size (rN f l k) hNh)
        have HON := Lib.hid (recA_one (rN f l k))
        obtain ⟨XN, hXN⟩ : ∃ X, recA (rN f l k) = X := ⟨_, rfl⟩
        rw [hXN] at hN hP HSN HON
        rw [HX.out] at hN
        have HNN := Lib.hid hN
        have HP := Lib.hid hP
        have HXN := Lib.hid hXN
        have HM := Lib.hid hm
        clear hN hP hXN hm hNh hNs
        have hs36 := HSN.out
        obtain ⟨i0, hi0, hz0, hs0, hb0⟩ := info_parts info_recs
        go_wp2_with (first
          | (refine sel (some 55) (.buildSlice 38 1 #[(0, .tmp 54)]) ?_
             refine wpList_plain rfl (fun K hK => ?_)
             go_simp
             rw [fold_all _ XN rfl hs36]
             refine hK _ _ ?_
             clear hK)
          | (refine sel (some 44) (.load 25 (.tmp 43)) ?_
             refine wpList_load_rec rfl (.tmp 43) rfl b (o + k * 36) rfl X HRg.out HS.out ?_)
          | (refine sel none (.store 25 (.tmp 11) (.tmp 44)) ?_
             refine wpList_store_rowA rfl 25 (.tmp 11) (.tmp 44) rfl wr.heap.size X rfl rfl 25 _ (heap_alloc_new _ _) (by rw [HS.out]; exact info_rec) (by rw [HS.out]; rfl) HO.out ?_
             intro W hgW hbW
             have HB := Lib.hid hbW
             have HGW := Lib.hid (((Chg.refl Non wr).alloc _).then_new hgW (fun x e => by omega))
             have kc : W.cell? ⟨wr.heap.size, 0, none⟩ = some (.int .i64 l[k].seqn) := by rw [cell_of_row _ _ _ _ _ _ hbW]; exact HC.out
             have kf : W.frozen? ⟨wr.heap.size, 0, none⟩ = false := frozen_of_row _ _ _ _ _ hbW
             have hbN : (W.setCell ⟨wr.heap.size, 0, none⟩ (.int .i64 (f + k))).heap[wr.heap.size]? = some (.cells XN 25 (0, 0)) := by
               rw [heap_setCell_same _ _ _ _ _ _ hbW, HNN.out]
             have HBN := Lib.hid hbN
             have HGN := Lib.hid (HGW.out.setCell (p := ⟨wr.heap.size, 0, none⟩) (.inr (Nat.le_refl _)) (.int .i64 (f + k)))
             clear hgW hbW hbN)
          | (refine sel (some 50) (.load 25 (.tmp 11)) ?_
             refine wpList_load_rec rfl (.tmp 11) rfl wr.heap.size 0 rfl XN (range_block HBN.out) HSN.out ?_)
          | (go_at_call 10
             refine (HP.out _ (HI.out.1.non HGN.out)).mono ?_
             rintro e u ⟨rfl, ku, hgu⟩
             have HKu := Lib.hid ku
             have hge : w.heap.size ≤ pd ∧ w.heap.size ≤ ps ∧ w.heap.size ≤ pm := ku.ge
             have hltu : pd < wr.heap.size ∧ ps < wr.heap.size ∧ pm < wr.heap.size := HI.out.1.lt
             have HBu := Lib.hid ((hgu.block wr.heap.size (Array.getElem?_eq_some_iff.1 HBN.out).1 (by unfold DS; omega)).trans HBN.out)
             have HGu := Lib.hid (HGN.out.non_then hgu)
             clear ku hgu kc kf)
          | (refine sel (some 54) (.load 25 (.tmp 11)) ?_
             refine wpList_load_rec rfl (.tmp 11) rfl wr.heap.size 0 rfl XN (range_block HBu.out) HSN.out ?_)
          | (refine sel (some 56) (.call { callee := .builtin .append, args := #[.tmp 53, .tmp 55], argTypes := #[38, 38] }) ?_
             refine Hole.out ?_))
        refine ⟨?_⟩
        have HOld := Lib.hid (own_keep HI.out.2.1 HGu.out (fun g hg e => by have := HI.out.2.2.1 g hg; unfold DS at e; omega))
        refine wpList_append_lies _ rfl (.tmp 53) (.tmp 55) 38 rfl w.heap.size 25 i0 (.agg recZ) 36 64 Tryz.underlying38 hi0 hz0 hs0 hb0 recZ_size (by omega) u9 k (rCells f l k) rfl
          (own_chg HOld.out ((Chg.refl _ _).alloc _)) ⟨u.heap.size, 0, none⟩ 1 1 XN.toList rfl (by rw [Array.length_toList, HSN.out]) ?_ ?_ (by omega) (by unfold maxLen; omega) (by omega) (by have := HGu.out.size; have := hge; simp; omega) _ rfl ?_
        · intro j x hx
          rw [Addr.add_mid, cell_of_row _ _ _ _ _ _ (heap_alloc_new _ _), Nat.zero_add]
          simpa using hx
        · intro x hx
          exact (Array.all_eq_true_iff_forall_mem.1 HON.out) x (by simpa using hx)
        intro gg cap v2 hown2 hgrow hat hlt2
        have HOw := Lib.hid hown2
        have HGr := Lib.hid hgrow
        have HAt := Lib.hid hat
        clear hown2 hgrow hat
        go_wp2_with fail
        case roundEnd =>
          have hgv : Chg (fun x => u9.ownBlock = some x) u v2 := ((Chg.refl _ _).alloc _).grown HGr.out (fun g hg => .inl hg)
          have hk2 := HKu.out.newKeep hgv (fun x hx => ⟨(HI.out.2.2.1 x hx).1, (HI.out.2.2.1 x hx).2.1, (HI.out.2.2.1 x hx).2.2, own_ge HOld.out hx⟩)
          refine ⟨⟨k + 1, by omega, by simp, ⟨?_, ?_, ?_, HR0.out.non hk2.chg, ?_⟩⟩, by simp [intOf]; omega⟩
          · have hs : (rN f l k).seqn = f + k := rfl
            rw [hs] at hk2
            rw [stAt_succ]
            split
            · rename_i h; rw [if_pos h, if_pos h] at hk2; exact hk2
            · rename_i h; rw [if_neg h, if_neg h] at hk2; exact hk2
          · rw [rCells_succ, HXN.out]; exact HOw.out
          · intro g hg
            obtain rfl : gg = g := by simpa [Value.ownBlock] using hg
            rcases HAt.out with h | h
            · exact HI.out.2.2.1 gg h
            · have hz : (u.alloc (.cells XN 25)).heap.size = u.heap.size + 1 := by simp
              have := HGu.out.size
              subst h
              omega
          · intro i hi
            by_cases h : i < k
            · exact HI.out.2.2.2.2 i h
            · obtain rfl : i = k := by omega
              exact HM.out
      · have hm' : (rN f l k).may = false := by simpa using hm
        have hP := fun W h => keptC_put_arg (w0 := w) (w := W) (pd := pd) (ps := ps) (pm := pm) (n := 3) (a := (stAt f l k).1) (b := (stAt f l k).2) h (rN f l k) hm' hNh hNs
        have HSN := Lib.hid (recA_size (rN f l k) hNh)
        have HON := Lib.hid (recA_one (rN f l k))
        obtain ⟨XN, hXN⟩ : ∃ X, recA (rN f l k) = X := ⟨_, rfl⟩
        rw [hXN] at hN hP HSN HON
        rw [HX.out] at hN
        have HNN := Lib.hid hN
        have HP := Lib.hid hP
        have HXN := Lib.hid hXN
        have HM := Lib.hid hm'
        clear hN hP hXN hm hm' hNh hNs
        go_wp2_with (first
          | (refine sel (some 44) (.load 25 (.tmp 43)) ?_
             refine wpList_load_rec rfl (.tmp 43) rfl b (o + k * 36) rfl X HRg.out HS.out ?_)
          | (refine sel none (.store 25 (.tmp 11) (.tmp 44)) ?_
             refine wpList_store_rowA rfl 25 (.tmp 11) (.tmp 44) rfl wr.heap.size X rfl rfl 25 _ (heap_alloc_new _ _) (by rw [HS.out]; exact info_rec) (by rw [HS.out]; rfl) HO.out ?_
             intro W hgW hbW
             have HB := Lib.hid hbW
             have HGW := Lib.hid (((Chg.refl Non wr).alloc _).then_new hgW (fun x e => by omega))
             have kc : W.cell? ⟨wr.heap.size, 0, none⟩ = some (.int .i64 l[k].seqn) := by rw [cell_of_row _ _ _ _ _ _ hbW]; exact HC.out
             have kf : W.frozen? ⟨wr.heap.size, 0, none⟩ = false := frozen_of_row _ _ _ _ _ hbW
             have hbN : (W.setCell ⟨wr.heap.size, 0, none⟩ (.int .i64 (f + k))).heap[wr.heap.size]? = some (.cells XN 25 (0, 0)) := by
               rw [heap_setCell_same _ _ _ _ _ _ hbW, HNN.out]
             have HBN := Lib.hid hbN
             have HGN := Lib.hid (HGW.out.setCell (p := ⟨wr.heap.size, 0, none⟩) (.inr (Nat.le_refl _)) (.int .i64 (f + k)))
             clear hgW hbW hbN)
          | (refine sel (some 50) (.load 25 (.tmp 11)) ?_
             refine wpList_load_rec rfl (.tmp 11) rfl wr.heap.size 0 rfl XN (range_block HBN.out) HSN.out ?_)
          | (go_at_call 10
             refine (HP.out _ (HI.out.1.non HGN.out)).mono ?_
             rintro e u ⟨rfl, ku, hgu⟩
             have HKu := Lib.hid ku
             clear ku hgu kc kf))
        go_ret3
        exact (show RowsPost f l _ w (.returned (.tuple #[.pointer none, .slice none 0 0, .bool false])) u from Or.inl ⟨k, hlt, HM.out, rfl, HKu.out.chg⟩)
    · obtain rfl : k = l.length := by omega
      go_wp2_with fail
      go_ret3
      exact (show RowsPost f l _ w (.returned (.tuple #[.pointer (some ⟨pd, 0, none⟩), u9, .bool true])) wr from Or.inr ⟨pd, ps, pm, u9, rfl, HI.out⟩)
end Go.Proofs.YthhbdejagglgbaaGreat
