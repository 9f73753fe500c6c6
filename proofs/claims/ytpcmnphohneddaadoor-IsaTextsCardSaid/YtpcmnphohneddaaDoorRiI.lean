/- The document's answer of layer 19: Code. -/
import Derived.Test.YtpcmnphohneddaaDoorRiH
import Derived.Test.YtpcmnphohneddaaDoorIsa12
namespace Go.Proofs.YtpcmnphohneddaaDoor
open Go.RowKit
set_option linter.unusedVariables false

theorem rParse_yes (s : List UInt8) (op a b c : Nat) (n : Int) (w : World) (hl : s.length < 1000000) (h : parseC s = some ⟨op, a, b, c, n⟩) :
    Calls Tryd.prog 21 #[.string ⟨s.toArray⟩] w fun e w' => e = .returned (.tuple #[.agg #[.int .u8 op, .int .u8 a, .int .u8 b, .int .u8 c, .int .i64 n], .int .i64 0]) ∧ Chg Non w w' :=
  (rParse_ok s w hl).mono fun e w' ⟨he, hg⟩ => ⟨by rw [he, docParse_eq, h]; rfl, hg⟩
theorem rParse_none (s : List UInt8) (w : World) (hl : s.length < 1000000) (h : parseC s = none) :
    Calls Tryd.prog 21 #[.string ⟨s.toArray⟩] w fun e w' => e = .returned (.tuple #[.agg #[.int .u8 0, .int .u8 0, .int .u8 0, .int .u8 0, .int .i64 0], .int .i64 190]) ∧ Chg Non w w' :=
  (rParse_ok s w hl).mono fun e w' ⟨he, hg⟩ => ⟨by rw [he, docParse_eq, h]; rfl, hg⟩
theorem own_not_four {B : Nat} {w : World} {v : Value} {l : List UInt8} (h : OwnR B w v l) {b : Nat} {cs : Array Value} (hb : w.heap[b]? = some (.cells cs 24 (0, 0))) : ¬ v.ownBlock = some b := by
  intro e
  rcases h.2 with ⟨rfl, _⟩ | ⟨g2, c2, cur2, rfl, _, hb2, _⟩
  · simp [Value.ownBlock] at e
  · obtain rfl : g2 = b := by simpa [Value.ownBlock] using e
    rw [hb] at hb2
    injection hb2 with hb2
    injection hb2 with _ ht _
    exact absurd ht (by decide)
theorem four_at {w : World} {b : Nat} {t : TypeId} (f : Q4) (hb : w.heap[b]? = some (.cells #[.int .u8 f.1, .int .u8 f.2.1, .int .u8 f.2.2.1, .int .u8 f.2.2.2] t (0, 0))) (j : Nat) (hj : j < 4) : w.cell? ⟨b, j, none⟩ = some (.int .u8 (qb f j)) := by
  have h' : j = 0 ∨ j = 1 ∨ j = 2 ∨ j = 3 := by omega
  refine row_cell hb ?_
  rcases h' with rfl | rfl | rfl | rfl <;> rfl

set_option maxRecDepth 100000 in
set_option maxHeartbeats 4000000 in
theorem rCode_ok (A : Option Addr) (c : Nat) (ls : List (List UInt8)) (w : World) (hr : RdS w A ls) (hl : ls.length ≤ 1000) (hb : ∀ l ∈ ls, l.length < 1000000) :
    Calls Tryd.prog 25 #[.slice A ls.length c] w fun e w' => RetC w ls e w' := by
  have HR := Lib.hid hr
  have HB := Lib.hid hb
  clear hr hb
  go_enter Tryd.func25, Tryd.ntmps25
  go_wp2_with fail
  go_loopw [4, 5] (fun v i wr => ∃ k : Nat, k ≤ ls.length ∧ i = .int .i64 k ∧ Chg Non w wr ∧ OwnR w.heap.size wr v (codeB (ls.take k)) ∧ AllOk (ls.take k)) (fun _ i _ => ls.length - (intOf i).toNat)
  case atStart => exact ⟨0, Nat.zero_le _, rfl, Chg.refl _ _, OwnR.nil _ _, fun l hl => by simp at hl⟩
  case round =>
    obtain ⟨k, hk, rfl, hg, ho, hok⟩ := hrel
    have HG := Lib.hid hg
    have HO := Lib.hid ho
    have HOk := Lib.hid hok
    clear hg ho hok
    by_cases hlt : k < ls.length
    · obtain ⟨l, hlk⟩ : ∃ l, ls[k]? = some l := ⟨_, List.getElem?_eq_getElem hlt⟩
      have HL := Lib.hid hlk
      have hmem : l ∈ ls := List.mem_of_getElem? hlk
      have HM := Lib.hid hmem
      have hll := HB.out l hmem
      obtain ⟨b, o, rfl, hc⟩ := HR.out k l hlk
      have hcell : wr.cell? ⟨b, o + k, none⟩ = some (.string ⟨l.toArray⟩) := HG.out.cell_some hc (fun e => e)
      clear hc hlk hmem
      cases hp : parseC l with
      | none =>
        have HP := Lib.hid hp
        clear hp
        go_wp2_with fail
        refine (rParse_none l wr hll HP.out).mono ?_
        rintro e w1 ⟨rfl, hg1⟩
        go_wp2_with fail
        go_ret2
        refine ⟨(HG.out.then_non hg1).alloc _, ?_⟩
        rw [codeC_no ls l HM.out HP.out]
        rfl
      | some x =>
        have HP := Lib.hid hp
        obtain ⟨op, a, b2, c2, n⟩ := x
        have HMay := Lib.hid (parseC_some hp).1
        obtain ⟨⟨e1, e2, e3, e4⟩, he⟩ : ∃ f, encI ⟨op, a, b2, c2, n⟩ = f := ⟨_, rfl⟩
        have HEn := Lib.hid he
        have HF4 := Lib.hid (enc_four HMay.out he).1
        have HEB : Hid (encB ⟨op, a, b2, c2, n⟩ = qB (e1, e2, e3, e4)) := Lib.hid (by unfold encB qB; rw [he])
        clear hp he
        go_wp2_with fail
        refine (rParse_yes l op a b2 c2 n wr hll HP.out).mono ?_
        rintro e w1 ⟨rfl, hg1⟩
        have HG1 := Lib.hid hg1
        clear hg1
        go_wp2_with fail
        refine (rBytes_ok op a b2 c2 n e1 e2 e3 e4 _ HMay.out HEn.out).mono ?_
        rintro e w2 ⟨rfl, hg2⟩
        have HG2 : Hid (Chg Non wr w2) := Lib.hid ((HG1.out.alloc _).then_non hg2)
        clear hg2
        have hcl : (codeB (ls.take k)).length ≤ 900000 := by have := codeB_len (ls.take k); simp at this; omega
        obtain ⟨pre, hpre⟩ : ∃ p, codeB (ls.take k) = p := ⟨_, rfl⟩
        rw [hpre] at HO hcl
        have HPre := Lib.hid hpre
        clear hpre
        go_wp2_with fail
        go_loopw [4, 9] (fun u i wi => ∃ j : Nat, j ≤ 4 ∧ i = .int .i64 j ∧ Chg Non w wi ∧ OwnR w.heap.size wi u (pre ++ (qB (e1, e2, e3, e4)).take j) ∧ wi.heap[w2.heap.size]? = some (.cells #[.int .u8 e1, .int .u8 e2, .int .u8 e3, .int .u8 e4] 24 (0, 0))) (fun _ i _ => 4 - (intOf i).toNat)
        case atStart => exact ⟨0, Nat.zero_le _, rfl, (HG.out.then_non HG2.out).alloc _, by simpa using HO.out.non (HG2.out.alloc _), heap_alloc_new _ _⟩
        case round =>
          rename World => wi
          obtain ⟨j, hj, rfl, hgj, hoj, hbj⟩ := hrel
          have HGj := Lib.hid hgj
          have HOj := Lib.hid hoj
          have HBj := Lib.hid hbj
          clear hgj hoj hbj
          by_cases hlt4 : j < 4
          · have hcj := four_at (e1, e2, e3, e4) HBj.out j hlt4
            have hbl := qb_lt HF4.out j
            obtain ⟨bj, hqj⟩ : ∃ bj, qb (e1, e2, e3, e4) j = bj := ⟨_, rfl⟩
            have HQj := Lib.hid hqj
            rw [hqj] at hcj hbl
            clear hqj
            have hwl : (pre ++ (qB (e1, e2, e3, e4)).take j).length ≤ 1000000 := by
              have h2 : ((qB (e1, e2, e3, e4)).take j).length ≤ 4 := by rw [List.length_take]; omega
              rw [List.length_append]
              omega
            go_wp2_with (refine sel (some 38) (.call _) ?_; refine Lines_stop ?_)
            refine Hole.mk ?_
            refine wpList_appR rfl (.tmp 33) (.tmp 37) rfl w.heap.size u4 (pre ++ (qB (e1, e2, e3, e4)).take j) rfl (HOj.out.non ((Chg.refl Non _).alloc _)) wi.heap.size 0 1 [UInt8.ofNat bj] rfl (byte_new _ _ hbl) (by simp) hwl (by simp) (by have h1 := HGj.out.size; simp; omega) ?_
            intro v5 w5 ho5 hg5 hat5
            have HO5 := Lib.hid ho5
            have HG5 : Hid (Chg Non w w5) := Lib.hid ((HGj.out.alloc _).then_new hg5 (fun x hx => HOj.out.ge hx))
            have hbk : (wi.alloc (.cells #[.int .u8 bj] 5)).heap[w2.heap.size]? = some (.cells #[.int .u8 e1, .int .u8 e2, .int .u8 e3, .int .u8 e4] 24 (0, 0)) := blockN ((Chg.refl Non _).alloc _) HBj.out
            have hnk := own_not_four (HOj.out.non ((Chg.refl Non wi).alloc (.cells #[.int .u8 bj] 5))) hbk
            have HB5 := Lib.hid (blockS hbk hg5 hnk)
            clear hbk hnk
            clear ho5 hg5 hat5
            go_wp2_with fail
            go_roundw
            case rel =>
              refine ⟨j + 1, by omega, by go_num, HG5.out, ?_, HB5.out⟩
              rw [List.take_add_one, qB_at (e1, e2, e3, e4) j hlt4, HQj.out, Option.toList_some, ← List.append_assoc]
              exact HO5.out
            case measure => simp [intOf]; omega
          · have hj4 : j = 4 := by omega
            subst hj4
            go_wp2_with fail
            go_roundw
            case rel =>
              refine ⟨k + 1, by omega, by go_num, HGj.out, ?_, ?_⟩
              · rw [List.take_add_one, HL.out, Option.toList_some, codeB_snoc _ _ _ HP.out, HPre.out, HEB.out]
                exact HOj.out
              · rw [List.take_add_one, HL.out, Option.toList_some]
                intro y hy
                rw [List.mem_append, List.mem_singleton] at hy
                rcases hy with hy | rfl
                · exact HOk.out y hy
                · rw [HP.out]; rfl
            case measure => simp [intOf]; omega
    · have hkl : k = ls.length := by omega
      have ht : ls.take k = ls := List.take_of_length_le (by omega)
      rw [ht] at HO HOk
      clear ht
      obtain ⟨A', c', rfl, h1, h2, h3⟩ := HO.out.rd
      have H3 := Lib.hid h3
      clear h3
      go_wp2_with fail
      go_ret2
      refine ⟨HG.out, ?_⟩
      rw [codeC_all ls HOk.out]
      exact ⟨A', c', rfl, H3.out, h1, h2⟩
end Go.Proofs.YtpcmnphohneddaaDoor
