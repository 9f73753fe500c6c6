/- Walks of package isa: Code. -/
import Derived.Test.YtpcmnphohneddaaGreatDoorIsa9
import Derived.Test.YtpcmnphohneddaaGreatDoorIsaC
import Derived.Test.YtpcmnphohneddaaGreatDoorBts
namespace Go.Proofs.YtpcmnphohneddaaGreatDoor
open Go.RowKit
set_option linter.unusedVariables false

theorem Parse_c (s : List UInt8) (w : World) (hE : Env w) (hl : s.length < 1000000) :
    Calls Tryz.prog 64 #[.string ⟨s.toArray⟩] w fun e w' => e = .returned (match parseC s with | some x => .tuple #[.agg (insC x), .int .i64 0] | none => .tuple #[.agg (insC Ins.zero), .int .i64 190]) ∧ Chg Non w w' :=
  (Parse_ok s w hE hl).mono fun e w' ⟨⟨r, hr, he⟩, hg⟩ => ⟨by rw [he, parse_rel hr]; rfl, hg⟩

theorem Parse_yes (s : List UInt8) (x : Ins) (w : World) (hE : Env w) (hl : s.length < 1000000) (h : parseC s = some x) :
    Calls Tryz.prog 64 #[.string ⟨s.toArray⟩] w fun e w' => e = .returned (.tuple #[.agg #[.int .u8 x.op, .int .u8 x.a, .int .u8 x.b, .int .u8 x.c, .int .i64 x.n], .int .i64 0]) ∧ Chg Non w w' :=
  (Parse_c s w hE hl).mono fun e w' ⟨he, hg⟩ => ⟨by rw [he, h]; rfl, hg⟩
theorem Parse_none (s : List UInt8) (w : World) (hE : Env w) (hl : s.length < 1000000) (h : parseC s = none) :
    Calls Tryz.prog 64 #[.string ⟨s.toArray⟩] w fun e w' => e = .returned (.tuple #[.agg #[.int .u8 0, .int .u8 0, .int .u8 0, .int .u8 0, .int .i64 0], .int .i64 190]) ∧ Chg Non w w' :=
  (Parse_c s w hE hl).mono fun e w' ⟨he, hg⟩ => ⟨by rw [he, h]; rfl, hg⟩

/-- what Code gives -/
def RetC (w : World) (ls : List (List UInt8)) (e : Ending) (w' : World) : Prop :=
  Chg Non w w' ∧ match codeC ls with
  | some l => ∃ A c, e = .returned (.tuple #[.slice A l.length c, .int .i64 0]) ∧ Rd w' A l ∧ l.length ≤ c ∧ c ≤ maxLen
  | none => e = .returned (.tuple #[.slice none 0 0, .int .i64 190])

def AllOk (ls : List (List UInt8)) : Prop := ∀ l ∈ ls, (parseC l).isSome = true
theorem enc_bytes {x : Ins} (h : mayB x = true) {w : World} {b : Nat} {t : TypeId} (hb : w.heap[b]? = some (.cells (fourC (encI x)) t (0, 0))) :
    ∀ j u, (encB x)[j]? = some u → w.cell? ⟨b, 0 + j, none⟩ = some (bv u) := by
  obtain ⟨h1, h2, h3, h4⟩ := enc_bd h
  intro j u hu
  rw [Nat.zero_add]
  refine row_cell hb ?_
  unfold encB at hu
  unfold fourC
  rcases j with _ | _ | _ | _ | j
  · simp at hu ⊢; subst hu; simp only [bv, UInt8.toNat_ofNat']; congr 1; omega
  · simp at hu ⊢; subst hu; simp only [bv, UInt8.toNat_ofNat']; congr 1; omega
  · simp at hu ⊢; subst hu; simp only [bv, UInt8.toNat_ofNat']; congr 1; omega
  · simp at hu ⊢; subst hu; simp only [bv, UInt8.toNat_ofNat']; congr 1; omega
  · simp at hu

set_option maxRecDepth 100000 in
set_option maxHeartbeats 2000000 in
theorem Code_ok (A : Option Addr) (c : Nat) (ls : List (List UInt8)) (w : World) (hE : Env w) (hr : RdS w A ls) (hl : ls.length ≤ 1000) (hb : ∀ l ∈ ls, l.length < 1000000) :
    Calls Tryz.prog 55 #[.slice A ls.length c] w fun e w' => RetC w ls e w' := by
  have HE := Lib.hid hE
  have HR := Lib.hid hr
  have HB := Lib.hid hb
  clear hE hr hb
  go_enter Tryz.func55, Tryz.ntmps55
  go_wp2_with fail
  go_loopw [4, 13] (fun v i wr => ∃ k : Nat, k ≤ ls.length ∧ i = .int .i64 k ∧ Chg Non w wr ∧ OwnR w.heap.size wr v (codeB (ls.take k)) ∧ AllOk (ls.take k)) (fun _ i _ => ls.length - (intOf i).toNat)
  case atStart => exact ⟨0, Nat.zero_le _, rfl, Chg.refl _ _, OwnR.nil _ _, fun l hl => by simp at hl⟩
  case round =>
    obtain ⟨k, hk, rfl, hg, ho, hok⟩ := hrel
    have HG := Lib.hid hg
    have HO := Lib.hid ho
    have HOk := Lib.hid hok
    clear hg ho hok
    by_cases hlt : k < ls.length
    · obtain ⟨l, hlk⟩ : ∃ l, ls[k]? = some l := ⟨_, List.getElem?_eq_getElem hlt⟩
      have HL := Lib.hid hlk
      have hmem : l ∈ ls := List.mem_of_getElem? hlk
      have HM := Lib.hid hmem
      have hll := HB.out l hmem
      obtain ⟨b, o, rfl, hc⟩ := HR.out k l hlk
      have hcell : wr.cell? ⟨b, o + k, none⟩ = some (.string ⟨l.toArray⟩) := HG.out.cell_some hc (fun e => e)
      clear hc hlk hmem
      cases hp : parseC l with
      | none =>
        have HP := Lib.hid hp
        clear hp
        go_wp2_with fail
        refine (Parse_none l wr (HE.out.non HG.out) hll HP.out).mono ?_
        rintro e w1 ⟨rfl, hg1⟩
        go_wp2_with fail
        go_ret2
        refine ⟨(HG.out.then_non hg1).alloc _, ?_⟩
        rw [codeC_no ls l HM.out HP.out]
        rfl
      | some x =>
        have HP := Lib.hid hp
        clear hp
        go_wp2_with fail
        refine (Parse_yes l x wr (HE.out.non HG.out) hll HP.out).mono ?_
        rintro e w1 ⟨rfl, hg1⟩
        have HG1 := Lib.hid hg1
        clear hg1
        go_wp2_with fail
        refine (Encode_ok x _ (parseC_some HP.out).1).mono ?_
        rintro e w2 ⟨rfl, hg2⟩
        have HG2 : Hid (Chg Non wr w2) := Lib.hid ((HG1.out.alloc _).then_non hg2)
        clear hg2
        obtain ⟨C, hC⟩ : ∃ C, fourC (encI x) = C := ⟨_, rfl⟩
        obtain ⟨p, q, r, s, hCx⟩ : ∃ p q r s : Nat, C = #[.int .u8 p, .int .u8 q, .int .u8 r, .int .u8 s] := ⟨_, _, _, _, hC.symm⟩
        rw [hC, hCx]
        rw [hCx] at hC
        have HCx := Lib.hid hC
        clear hC hCx
        have hcl : (codeB (ls.take k)).length ≤ 1000000 := by have := codeB_len (ls.take k); simp at this; omega
        go_wp2_with (first
          | (refine sel (some 32) (.call _) ?_
             refine wpList_appR rfl (.tmp 30) (.tmp 31) rfl w.heap.size _ (codeB (ls.take k)) rfl (HO.out.non ((HG2.out).alloc _)) w2.heap.size 0 4 (encB x) rfl (enc_bytes (parseC_some HP.out).1 (by rw [HCx.out]; exact heap_alloc_new _ _)) (by simp [encB]) (by omega) (by simp [encB]) (by have h1 := HG.out.size; have h2 := HG2.out.size; simp; omega) ?_
             intro v2 w3 ho3 hg3 hat
             have HO3 := Lib.hid ho3
             have HG3 : Hid (Chg Non w w3) := Lib.hid (((HG.out.then_non HG2.out).alloc _).then_new hg3 (fun x hx => HO.out.ge hx))
             clear ho3 hg3 hat))
        go_roundw
        case rel =>
          refine ⟨k + 1, by omega, by go_num, HG3.out, ?_, ?_⟩
          · rw [List.take_add_one, HL.out, Option.toList_some, codeB_snoc _ _ _ HP.out]
            exact HO3.out
          · rw [List.take_add_one, HL.out, Option.toList_some]
            intro y hy
            rw [List.mem_append, List.mem_singleton] at hy
            rcases hy with hy | rfl
            · exact HOk.out y hy
            · rw [HP.out]; rfl
        case measure => simp [intOf]; omega
    · have hkl : k = ls.length := by omega
      have ht : ls.take k = ls := List.take_of_length_le (by omega)
      rw [ht] at HO HOk
      clear ht
      obtain ⟨A', c', rfl, h1, h2, h3⟩ := HO.out.rd
      have H3 := Lib.hid h3
      clear h3
      go_wp2_with fail
      go_ret2
      refine ⟨HG.out, ?_⟩
      rw [codeC_all ls HOk.out]
      exact ⟨A', c', rfl, H3.out, h1, h2⟩
end Go.Proofs.YtpcmnphohneddaaGreatDoor
