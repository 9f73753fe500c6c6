/- Commit records: walks of commit.sector. -/
import Derived.Test.YthhbdejagglgbaaGreatRec
namespace Go.Proofs.YthhbdejagglgbaaGreat
open Go.RowKit
set_option linter.unusedVariables false

/-- a slot as a byte -/
def slotB (r : Rec) : UInt8 := if r.slot = 1 then 1 else 0

/-- a record's form -/
def recForm (r : Rec) : List UInt8 := be (u64 r.seqn) 8 ++ [slotB r] ++ be (u64 r.len) 8 ++ [flagB r.trial] ++ r.hash
theorem recForm_len (r : Rec) (h : r.hash.length = 32) : (recForm r).length = 50 := by simp [recForm, be_length, h]

/-- the boxed record is kept -/
def HeldR (g : Nat) (sq sl ln : Int) (tr : Bool) (ha : List UInt8) (w' : World) : Prop :=
  w'.cell? ⟨g, 0, none⟩ = some (.int .i64 sq) ∧ w'.cell? ⟨g, 1, none⟩ = some (.int .i64 sl) ∧ w'.cell? ⟨g, 2, none⟩ = some (.int .i64 ln) ∧ w'.cell? ⟨g, 3, none⟩ = some (.bool tr) ∧ w'.rangeAt g 4 (ha.map bv)
theorem HeldR.keep {g : Nat} {sq sl ln : Int} {tr : Bool} {ha : List UInt8} {w w' : World} (h : HeldR g sq sl ln tr ha w) (hc : ∀ o, w'.cell? ⟨g, o, none⟩ = w.cell? ⟨g, o, none⟩) : HeldR g sq sl ln tr ha w' := by
  obtain ⟨h0, h1, h2, h3, h4⟩ := h
  exact ⟨(hc 0).trans h0, (hc 1).trans h1, (hc 2).trans h2, (hc 3).trans h3, fun j v hv => (hc _).trans (h4 j v hv)⟩
theorem heldR_new (r : Rec) (w : World) (t : TypeId) : HeldR w.heap.size r.seqn r.slot r.len r.trial r.hash (w.alloc (.cells (recA r) t)) := by
  refine ⟨?_, ?_, ?_, ?_, ?_⟩
  · rw [cell_of_row _ _ _ _ _ _ (heap_alloc_new _ _)]; exact recA_0 r
  · rw [cell_of_row _ _ _ _ _ _ (heap_alloc_new _ _)]; exact recA_1 r
  · rw [cell_of_row _ _ _ _ _ _ (heap_alloc_new _ _)]; exact recA_2 r
  · rw [cell_of_row _ _ _ _ _ _ (heap_alloc_new _ _)]; exact recA_3 r
  · intro j v hv
    rw [cell_of_row _ _ _ _ _ _ (heap_alloc_new _ _), ← Array.getElem?_toList, recA_list]
    rw [List.getElem?_append_right (by simp)]
    simpa using hv

set_option maxRecDepth 100000 in
set_option maxHeartbeats 4000000 in
theorem sector_any (r : Rec) (w : World) (hs : r.slot = 0 ∨ r.slot = 1) (hh : r.hash.length = 32) :
    Calls Tryz.prog 30 #[.agg (recA r)] w (RetB w (sealL 1 (recForm r))) := by
  have HF := Lib.hid (recForm_len r hh)
  have hform : be (u64 r.seqn) 8 ++ [slotB r] ++ be (u64 r.len) 8 ++ [flagB r.trial] ++ r.hash = recForm r := rfl
  have HFm := Lib.hid hform
  have HN := Lib.hid (heldR_new r w 25)
  have hsl : ((slotB r).toNat : Int) = IntKind.u8.wrap r.slot := by
    unfold slotB
    rcases hs with h | h
    · rw [h]; decide
    · rw [h]; decide
  have HSl := Lib.hid hsl
  clear hform hs hsl
  have hut := Tryz.underlying23
  have hit : (Tryz.prog.info? 23).map (·.size) = some (r.hash.map bv).length := by rw [List.length_map, hh]; exact info_tag
  obtain ⟨X, hX⟩ : ∃ X, recA r = X := ⟨_, rfl⟩
  rw [hX] at HN ⊢
  clear hX
  obtain ⟨F, hF⟩ : ∃ F, recForm r = F := ⟨_, rfl⟩
  rw [hF] at HF HFm ⊢
  clear hF
  obtain ⟨sb, hsb⟩ : ∃ sb, slotB r = sb := ⟨_, rfl⟩
  rw [hsb] at HSl HFm
  clear hsb
  obtain ⟨sq, sl, ln, tr, ha⟩ := r
  simp only at hh hit HN HSl HFm
  go_enter Tryz.func30, Tryz.ntmps30
  go_wp2_with fail
  obtain ⟨W0, hW0⟩ : ∃ W0, w.alloc (.cells X 25) = W0 := ⟨_, rfl⟩
  have hc0 : Chg Non w W0 := by rw [← hW0]; exact (Chg.refl _ _).alloc _
  have hlt : w.heap.size < W0.heap.size := by rw [← hW0]; simp
  obtain ⟨g, hg0⟩ : ∃ g, w.heap.size = g := ⟨_, rfl⟩
  rw [hW0, hg0] at HN
  rw [hg0] at hlt
  rw [hW0, hg0]
  have HC0 := Lib.hid hc0
  clear hW0 hc0
  obtain ⟨k0, k1, k2, k3, hrow⟩ := HN.out
  go_region_held3 (fun w' => w'.cell? ⟨g, 0, none⟩ = some (.int .i64 sq) ∧ w'.cell? ⟨g, 1, none⟩ = some (.int .i64 sl) ∧ w'.cell? ⟨g, 2, none⟩ = some (.int .i64 ln) ∧ w'.cell? ⟨g, 3, none⟩ = some (.bool tr) ∧ w'.rangeAt g 4 (ha.map bv))
    (first | go_keep | exact HN.out.keep HC.out)
    (first
      | (go_at_call 56
         refine (NewWriter_any _).mono ?_
         rintro e w1 ⟨rfl, hW, hg⟩
         have HG := Lib.hid (hg.below_non)
         have HC := Lib.hid (fun o => hg.cell (p := ⟨g, o, none⟩) hlt (fun e => e))
         clear hg)
      | (go_at_call 57
         refine (WInt_room _ _ _ _ _ hW (by simp [be_length])).mono ?_
         rintro e w1 ⟨rfl, hW, hg⟩
         have HC := Lib.hid (fun o => (hg.cell (p := ⟨g, o, none⟩) hlt).trans (HC.out o))
         have HG := Lib.hid (HG.out.trans hg)
         clear hg)
      | (go_at_call 58
         rw [← HSl.out]
         refine (WByte_room _ _ _ _ _ hW (by simp [be_length])).mono ?_
         rintro e w1 ⟨rfl, hW, hg⟩
         have HC := Lib.hid (fun o => (hg.cell (p := ⟨g, o, none⟩) hlt).trans (HC.out o))
         have HG := Lib.hid (HG.out.trans hg)
         clear hg)
      | (go_at_call 59
         refine (WFlag_room _ _ _ _ _ hW (by simp [be_length])).mono ?_
         rintro e w1 ⟨rfl, hW, hg⟩
         have HC := Lib.hid (fun o => (hg.cell (p := ⟨g, o, none⟩) hlt).trans (HC.out o))
         have HG := Lib.hid (HG.out.trans hg)
         clear hg)
      | (go_at_call 60
         refine (WTag_room _ _ _ _ _ hh hW (by simp [be_length])).mono ?_
         rintro e w1 ⟨rfl, hW, hg⟩
         have HC := Lib.hid (fun o => (hg.cell (p := ⟨g, o, none⟩) hlt).trans (HC.out o))
         have HG := Lib.hid (HG.out.trans hg)
         clear hg)
      | (go_at_call 61
         rw [List.nil_append, HFm.out] at hW
         refine (WDone_ok _ _ _ _ hW (by rw [HF.out]; omega)).mono ?_
         rintro e w1 ⟨A1, c1, rfl, hc1, hm1, ho1, hg⟩
         have HC := Lib.hid (fun o => (hg.cell (p := ⟨g, o, none⟩) (Nat.lt_of_lt_of_le hlt HG.out.size) (fun e => e)).trans (HC.out o))
         have HG := Lib.hid (HG.out.trans (hg.below (fun _ e => e.elim) HG.out.size))
         clear hg))
  have hgw : Chg Non w w1 := HC0.out.then_non ((Chg.refl Non W0).drew.then_non (Chg.of_below HG.out (Nat.le_refl _)))
  have HS := Lib.hid (Seal_any 1 A1 F c1 w1 ho1.rd (by rw [HF.out]; omega))
  go_wp2_with fail
  refine HS.out.mono ?_
  rintro e w2 ⟨A2, c2, rfl, hc2, hm2, ho2, hg2⟩
  go_wp2
  go_ret
  exact ⟨A2, c2, rfl, hc2, hm2, ho2.mono hgw.size, hgw.then_non hg2⟩
end Go.Proofs.YthhbdejagglgbaaGreat
