/- The document's answer of layer 19: Text. -/
import Derived.Test.YtpcmnphohneddaaDoorRiF
import Derived.Test.YtpcmnphohneddaaDoorRiQ
import Derived.Test.YtpcmnphohneddaaDoorHeld
namespace Go.Proofs.YtpcmnphohneddaaDoor
open Go.RowKit
set_option linter.unusedVariables false

theorem namesC_at (k : Nat) (h : k ≤ 21) (w : World) (t : TypeId) : (w.alloc (.cells namesC t)).cell? ⟨w.heap.size, 0 + k, none⟩ = some (mkStr (opAt k).name) := by
  refine row_cell (heap_alloc_new w _) ?_
  rw [Nat.zero_add]
  have : ∀ k, k ≤ 21 → namesC[k]? = some (mkStr (opAt k).name) := by
    intro k hk
    have h22 : k = 0 ∨ k = 1 ∨ k = 2 ∨ k = 3 ∨ k = 4 ∨ k = 5 ∨ k = 6 ∨ k = 7 ∨ k = 8 ∨ k = 9 ∨ k = 10 ∨ k = 11 ∨ k = 12 ∨ k = 13 ∨ k = 14 ∨ k = 15 ∨ k = 16 ∨ k = 17 ∨ k = 18 ∨ k = 19 ∨ k = 20 ∨ k = 21 := by omega
    rcases h22 with h | h | h | h | h | h | h | h | h | h | h | h | h | h | h | h | h | h | h | h | h | h <;> subst h <;> rfl
  exact this k h

theorem str_sp (x : List UInt8) (w : World) (h : x.length ≤ 1000) : (binOp .add 9 (mkStr x) (.string ⟨#[32]⟩)).run Tryd.prog w = .ok (mkStr (x ++ [32])) w := str_cat x [32] w (by simp; omega)
theorem dec_small (n : Nat) (h : n < 65536) : (Lib.decDigits n).length ≤ 5 := (dec_len5 n (by omega)).1
set_option maxRecDepth 100000 in
set_option maxHeartbeats 4000000 in
theorem rText_some (op a b c : Nat) (n : Int) (w : World) (h : mayB ⟨op, a, b, c, n⟩ = true) (hk : kdAt op ≠ .none_) :
    Calls Tryd.prog 17 #[.agg #[.int .u8 op, .int .u8 a, .int .u8 b, .int .u8 c, .int .i64 n]] w fun e w' => e = .returned (mkStr (textL ⟨op, a, b, c, n⟩)) ∧ Chg Non w w' := by
  have hbd := May.bd h
  have hi := (mayB_iff _).1 h
  have ho1 : 1 ≤ op := hi.1.1
  have ho2 : op ≤ 21 := hi.1.2
  have HM : Hid (∀ W, Calls Tryd.prog 9 #[.agg #[.int .u8 op, .int .u8 a, .int .u8 b, .int .u8 c, .int .i64 n]] W fun e w' => e = .returned (.bool true) ∧ Chg Non W w') := Lib.hid (fun W => by
    have := rMay_ok op a b c n W hbd
    rw [h] at this
    exact this)
  have HH := Lib.hid h
  have hF0 := fun W => Form_ok op W
  have hlet := kdM_let op
  have hlen := kdM_len op
  rw [← kdL_M hk] at hF0
  obtain ⟨F, hF⟩ : ∃ F, kdM (kdAt op) = F := ⟨_, rfl⟩
  have HFd := Lib.hid hF
  rw [hF] at hF0 hlet hlen
  have HF := Lib.hid hF0
  have hne : (F == [110, 111, 110, 101]) = false := by
    rw [beq_eq_false_iff_ne]
    rintro rfl
    simp at hlen
  have HLet := Lib.hid hlet
  obtain ⟨m, rfl⟩ : ∃ m : Nat, n = m := ⟨n.toNat, by have := hi.2.2.2.2.1; simp only at this; omega⟩
  have hm : m < 65536 := by have := hi.2.2.2.2.2; have h2 := opAt_n op; simp only at this; omega
  have ha : a < 256 := hbd.a
  have hb : b < 256 := hbd.b
  have hc : c < 256 := hbd.c
  clear hi hbd h hF hF0 hlet
  go_enter Tryd.func17, Tryd.ntmps17
  go_wp2_with fail
  refine (HM.out _).mono ?_
  rintro e w1 ⟨rfl, hg⟩
  have HB := Lib.hid (blockN hg (al_1_0 _ _))
  have HG : Hid (Chg Non w w1) := Lib.hid (((Chg.refl Non w).alloc _).then_non hg)
  clear hg
  obtain ⟨⟨z, c0, c1, c2, c3, c4⟩, _⟩ := (Blk5.mk HB.out).all
  go_wp2_with fail
  refine wp_region_held_drew (S := fun W => W.cell? ⟨w.heap.size, 0, none⟩ = some (.int .u8 op)) (by kernel_rfl) c0 (fun hHeld => ?_)
  refine h_pure 1 (some 11) (.pointer (some ⟨w.heap.size, 0, none⟩)) rfl (by kernel_rfl) (by kernel_rfl) (by kernel_rfl) (by kernel_rfl) (fun _ _ _ h => h) (by kernel_rfl) (fun W hW => by go_simp) hHeld ?_
  simp only [Act.put, List.setIfInBounds_toArray, List.set_cons_zero, List.set_cons_succ]
  refine h_pure 2 (some 12) (.int .u8 op) rfl (by kernel_rfl) (by kernel_rfl) (by kernel_rfl) (by kernel_rfl) (fun _ _ _ h => h) (by kernel_rfl) (fun W hW => by go_simp) hHeld ?_
  simp only [Act.put, List.setIfInBounds_toArray, List.set_cons_zero, List.set_cons_succ]
  refine h_one 0 (by kernel_rfl) rfl (by kernel_rfl) ?_
  intro K hK
  go_simp
  refine (rNames_ok _).mono ?_
  rintro e w2 ⟨rfl, hw2⟩
  have HN := Lib.hid hw2
  have hcell : w2.cell? ⟨w1.heap.size, op, none⟩ = some (mkStr (opAt op).name) := by
    rw [← hw2]
    have := namesC_at op ho2 w1.drew 9
    rw [Nat.zero_add] at this
    exact this
  have hop : (op : Int) < 22 := by omega
  have hg2 : Chg Non w1 w2 := by rw [← hw2]; exact ((Chg.refl Non w1).drew).alloc _
  have hH2 : w2.cell? ⟨w.heap.size, 0, none⟩ = some (.int .u8 op) := hg2.cell_some c0 (fun e => e)
  clear hw2
  refine hK.out _ _ hH2 (fun _ => ?_)
  clear hK K
  refine h_one 3 (by kernel_rfl) rfl (by kernel_rfl) ?_
  intro K hK
  go_simp
  refine hK.out _ _ hH2 (fun _ => ?_)
  clear hK K
  refine h_one 4 (by kernel_rfl) rfl (by kernel_rfl) ?_
  intro K hK
  go_simp
  refine hK.out _ _ hH2 (fun _ => ?_)
  clear hK K
  refine h_one 5 (by kernel_rfl) rfl (by kernel_rfl) ?_
  intro K hK
  go_simp
  refine hK.out _ _ hH2 (fun _ => ?_)
  clear hK K
  refine wpAnyH_done (by kernel_rfl) ?_ _
  have HB := Lib.hid (blockN hg2 HB.out)
  have HG := Lib.hid (HG.out.then_non hg2)
  clear z c0 c1 c2 c3 c4 hHeld hcell hg2 hH2 hop HN
  obtain ⟨⟨z, c0, c1, c2, c3, c4⟩, _⟩ := (Blk5.mk HB.out).all
  go_wp2_with fail
  refine (HF.out _).mono ?_
  rintro e w3 ⟨rfl, rfl⟩
  go_wp2_with fail
  go_loopw [3, 5, 6] (fun s i n wr => ∃ k v : Nat, k ≤ F.length ∧ i = .int .i64 k ∧ s = mkStr ((opAt op).name ++ letW ⟨op, a, b, c, m⟩ (F.take k)) ∧ (n = undef ∨ n = .int .i64 v) ∧ ((opAt op).name ++ letW ⟨op, a, b, c, m⟩ (F.take k)).length ≤ 10 + 10 * k ∧ Chg Non w2 wr) (fun _ i _ _ => 9 - (intOf i).toNat)
  case atStart =>
    refine ⟨0, 0, Nat.zero_le _, rfl, ?_, .inl rfl, ?_, Chg.refl _ _⟩
    · simp [letW]
    · have := opAt_name_len op
      simp [letW]
      omega
  case round =>
    obtain ⟨k, v, hk, rfl, rfl, hn, hsl, hg⟩ := hrel
    have HG3 := Lib.hid hg
    have HBr := blockN hg HB.out
    clear hg z c0 c1 c2 c3 c4
    obtain ⟨⟨z, c0, c1, c2, c3, c4⟩, _⟩ := (Blk5.mk HBr).all
    clear HBr
    obtain ⟨T, hT⟩ : ∃ T, (opAt op).name ++ letW ⟨op, a, b, c, m⟩ (F.take k) = T := ⟨_, rfl⟩
    rw [hT] at hsl ⊢
    have HT := Lib.hid hT
    clear hT
    rcases Nat.lt_or_ge k F.length with hlt | hge
    · have hlti : decide ((k : Int) < (F.length : Int)) = true := by simp; omega
      rcases HLet.out k hlt with e | e | e | e
      -- rounds
      · have q97 : ((((⟨F.toArray⟩ : ByteArray)[k]'(by show k < F.length; omega)).toNat : Int) == 97) = true := by
          show ((F[k].toNat : Int) == 97) = _
          rw [e]; decide
        have q98 : ((((⟨F.toArray⟩ : ByteArray)[k]'(by show k < F.length; omega)).toNat : Int) == 98) = false := by
          show ((F[k].toNat : Int) == 98) = _
          rw [e]; decide
        have q99 : ((((⟨F.toArray⟩ : ByteArray)[k]'(by show k < F.length; omega)).toNat : Int) == 99) = false := by
          show ((F[k].toNat : Int) == 99) = _
          rw [e]; decide
        have he : letV ⟨op, a, b, c, m⟩ F[k] = (a : Nat) := by rw [e]; rfl
        have HE := Lib.hid he
        have HD := dec_small a (by omega)
        clear he e
        go_wp2_with fail
        rw [str_sp T _ (by omega)]
        go_wp2_with fail
        refine (rNumber_ok a (by omega) _).mono ?_
        rintro e w4 ⟨rfl, hg⟩
        go_wp2_with fail
        rw [str_cat _ _ _ (by simp; omega)]
        go_wp2_with fail
        refine ⟨⟨k + 1, a, by omega, by go_num, ?_, .inr rfl, ?_, HG3.out.then_non hg⟩, by simp [intOf]; omega⟩
        · rw [List.take_add_one, List.getElem?_eq_getElem hlt, Option.toList_some, letW_snoc, HE.out, ← List.append_assoc, HT.out]
          simp
        · rw [List.take_add_one, List.getElem?_eq_getElem hlt, Option.toList_some, letW_snoc, HE.out, ← List.append_assoc, HT.out]
          simp
          omega
      · have q97 : ((((⟨F.toArray⟩ : ByteArray)[k]'(by show k < F.length; omega)).toNat : Int) == 97) = false := by
          show ((F[k].toNat : Int) == 97) = _
          rw [e]; decide
        have q98 : ((((⟨F.toArray⟩ : ByteArray)[k]'(by show k < F.length; omega)).toNat : Int) == 98) = true := by
          show ((F[k].toNat : Int) == 98) = _
          rw [e]; decide
        have q99 : ((((⟨F.toArray⟩ : ByteArray)[k]'(by show k < F.length; omega)).toNat : Int) == 99) = false := by
          show ((F[k].toNat : Int) == 99) = _
          rw [e]; decide
        have he : letV ⟨op, a, b, c, m⟩ F[k] = (b : Nat) := by rw [e]; rfl
        have HE := Lib.hid he
        have HD := dec_small b (by omega)
        clear he e
        go_wp2_with fail
        rw [str_sp T _ (by omega)]
        go_wp2_with fail
        refine (rNumber_ok b (by omega) _).mono ?_
        rintro e w4 ⟨rfl, hg⟩
        go_wp2_with fail
        rw [str_cat _ _ _ (by simp; omega)]
        go_wp2_with fail
        refine ⟨⟨k + 1, b, by omega, by go_num, ?_, .inr rfl, ?_, HG3.out.then_non hg⟩, by simp [intOf]; omega⟩
        · rw [List.take_add_one, List.getElem?_eq_getElem hlt, Option.toList_some, letW_snoc, HE.out, ← List.append_assoc, HT.out]
          simp
        · rw [List.take_add_one, List.getElem?_eq_getElem hlt, Option.toList_some, letW_snoc, HE.out, ← List.append_assoc, HT.out]
          simp
          omega
      · have q97 : ((((⟨F.toArray⟩ : ByteArray)[k]'(by show k < F.length; omega)).toNat : Int) == 97) = false := by
          show ((F[k].toNat : Int) == 97) = _
          rw [e]; decide
        have q98 : ((((⟨F.toArray⟩ : ByteArray)[k]'(by show k < F.length; omega)).toNat : Int) == 98) = false := by
          show ((F[k].toNat : Int) == 98) = _
          rw [e]; decide
        have q99 : ((((⟨F.toArray⟩ : ByteArray)[k]'(by show k < F.length; omega)).toNat : Int) == 99) = true := by
          show ((F[k].toNat : Int) == 99) = _
          rw [e]; decide
        have he : letV ⟨op, a, b, c, m⟩ F[k] = (c : Nat) := by rw [e]; rfl
        have HE := Lib.hid he
        have HD := dec_small c (by omega)
        clear he e
        go_wp2_with fail
        rw [str_sp T _ (by omega)]
        go_wp2_with fail
        refine (rNumber_ok c (by omega) _).mono ?_
        rintro e w4 ⟨rfl, hg⟩
        go_wp2_with fail
        rw [str_cat _ _ _ (by simp; omega)]
        go_wp2_with fail
        refine ⟨⟨k + 1, c, by omega, by go_num, ?_, .inr rfl, ?_, HG3.out.then_non hg⟩, by simp [intOf]; omega⟩
        · rw [List.take_add_one, List.getElem?_eq_getElem hlt, Option.toList_some, letW_snoc, HE.out, ← List.append_assoc, HT.out]
          simp
        · rw [List.take_add_one, List.getElem?_eq_getElem hlt, Option.toList_some, letW_snoc, HE.out, ← List.append_assoc, HT.out]
          simp
          omega
      · have q97 : ((((⟨F.toArray⟩ : ByteArray)[k]'(by show k < F.length; omega)).toNat : Int) == 97) = false := by
          show ((F[k].toNat : Int) == 97) = _
          rw [e]; decide
        have q98 : ((((⟨F.toArray⟩ : ByteArray)[k]'(by show k < F.length; omega)).toNat : Int) == 98) = false := by
          show ((F[k].toNat : Int) == 98) = _
          rw [e]; decide
        have q99 : ((((⟨F.toArray⟩ : ByteArray)[k]'(by show k < F.length; omega)).toNat : Int) == 99) = false := by
          show ((F[k].toNat : Int) == 99) = _
          rw [e]; decide
        have he : letV ⟨op, a, b, c, m⟩ F[k] = (m : Nat) := by rw [e]; rfl
        have HE := Lib.hid he
        have HD := dec_small m (by omega)
        clear he e
        go_wp2_with fail
        rw [str_sp T _ (by omega)]
        go_wp2_with fail
        refine (rNumber_ok m (by omega) _).mono ?_
        rintro e w4 ⟨rfl, hg⟩
        go_wp2_with fail
        rw [str_cat _ _ _ (by simp; omega)]
        go_wp2_with fail
        refine ⟨⟨k + 1, m, by omega, by go_num, ?_, .inr rfl, ?_, HG3.out.then_non hg⟩, by simp [intOf]; omega⟩
        · rw [List.take_add_one, List.getElem?_eq_getElem hlt, Option.toList_some, letW_snoc, HE.out, ← List.append_assoc, HT.out]
          simp
        · rw [List.take_add_one, List.getElem?_eq_getElem hlt, Option.toList_some, letW_snoc, HE.out, ← List.append_assoc, HT.out]
          simp
          omega
    -- end of rounds
    · have hlti : decide ((k : Int) < (F.length : Int)) = false := by simp; omega
      have ht : F.take k = F := List.take_of_length_le (by omega)
      rw [ht, ← HFd.out] at HT
      go_wp2_with fail
      go_ret
      refine ⟨?_, HG.out.then_non HG3.out⟩
      rw [textL_letW, HH.out, if_pos rfl, HT.out]
      rfl
set_option maxRecDepth 100000 in
set_option maxHeartbeats 1000000 in
theorem rText_not (op a b c : Nat) (n : Int) (w : World) (hb : Ins.Bd ⟨op, a, b, c, n⟩) (h : mayB ⟨op, a, b, c, n⟩ = false) :
    Calls Tryd.prog 17 #[.agg #[.int .u8 op, .int .u8 a, .int .u8 b, .int .u8 c, .int .i64 n]] w fun e w' => e = .returned (mkStr (textL ⟨op, a, b, c, n⟩)) ∧ Chg Non w w' := by
  have HM : Hid (∀ W, Calls Tryd.prog 9 #[.agg #[.int .u8 op, .int .u8 a, .int .u8 b, .int .u8 c, .int .i64 n]] W fun e w' => e = .returned (.bool false) ∧ Chg Non W w') := Lib.hid (fun W => by
    have := rMay_ok op a b c n W hb
    rw [h] at this
    exact this)
  have HT : Hid (textL ⟨op, a, b, c, n⟩ = []) := Lib.hid (by rw [textL_letW, h]; rfl)
  clear h hb
  rw [HT.out]
  go_enter Tryd.func17, Tryd.ntmps17
  go_wp2_with fail
  refine (HM.out _).mono ?_
  rintro e w1 ⟨rfl, hg⟩
  have HG : Hid (Chg Non w w1) := Lib.hid (((Chg.refl Non w).alloc _).then_non hg)
  clear hg
  go_wp2_with fail
  go_ret
  exact ⟨rfl, HG.out⟩
set_option maxRecDepth 100000 in
set_option maxHeartbeats 4000000 in
theorem rText_none (op a b c : Nat) (n : Int) (w : World) (h : mayB ⟨op, a, b, c, n⟩ = true) (hk : kdAt op = .none_) :
    Calls Tryd.prog 17 #[.agg #[.int .u8 op, .int .u8 a, .int .u8 b, .int .u8 c, .int .i64 n]] w fun e w' => e = .returned (mkStr (textL ⟨op, a, b, c, n⟩)) ∧ Chg Non w w' := by
  have hbd := May.bd h
  have hi := (mayB_iff _).1 h
  have ho1 : 1 ≤ op := hi.1.1
  have ho2 : op ≤ 21 := hi.1.2
  have HM : Hid (∀ W, Calls Tryd.prog 9 #[.agg #[.int .u8 op, .int .u8 a, .int .u8 b, .int .u8 c, .int .i64 n]] W fun e w' => e = .returned (.bool true) ∧ Chg Non W w') := Lib.hid (fun W => by
    have := rMay_ok op a b c n W hbd
    rw [h] at this
    exact this)
  have HT : Hid (textL ⟨op, a, b, c, n⟩ = (opAt op).name) := Lib.hid (by rw [textL_letW, h, if_pos rfl, hk]; simp [kdM, letW])
  have hF0 := fun W => Form_ok op W
  rw [hk] at hF0
  have HF := Lib.hid hF0
  clear hi hbd h hF0
  rw [HT.out]
  go_enter Tryd.func17, Tryd.ntmps17
  go_wp2_with fail
  refine (HM.out _).mono ?_
  rintro e w1 ⟨rfl, hg⟩
  have HB := Lib.hid (blockN hg (al_1_0 _ _))
  have HG : Hid (Chg Non w w1) := Lib.hid (((Chg.refl Non w).alloc _).then_non hg)
  clear hg
  obtain ⟨⟨z, c0, c1, c2, c3, c4⟩, _⟩ := (Blk5.mk HB.out).all
  go_wp2_with fail
  refine wp_region_held_drew (S := fun W => W.cell? ⟨w.heap.size, 0, none⟩ = some (.int .u8 op)) (by kernel_rfl) c0 (fun hHeld => ?_)
  refine h_pure 1 (some 11) (.pointer (some ⟨w.heap.size, 0, none⟩)) rfl (by kernel_rfl) (by kernel_rfl) (by kernel_rfl) (by kernel_rfl) (fun _ _ _ h => h) (by kernel_rfl) (fun W hW => by go_simp) hHeld ?_
  simp only [Act.put, List.setIfInBounds_toArray, List.set_cons_zero, List.set_cons_succ]
  refine h_pure 2 (some 12) (.int .u8 op) rfl (by kernel_rfl) (by kernel_rfl) (by kernel_rfl) (by kernel_rfl) (fun _ _ _ h => h) (by kernel_rfl) (fun W hW => by go_simp) hHeld ?_
  simp only [Act.put, List.setIfInBounds_toArray, List.set_cons_zero, List.set_cons_succ]
  refine h_one 0 (by kernel_rfl) rfl (by kernel_rfl) ?_
  intro K hK
  go_simp
  refine (rNames_ok _).mono ?_
  rintro e w2 ⟨rfl, hw2⟩
  have HN := Lib.hid hw2
  have hcell : w2.cell? ⟨w1.heap.size, op, none⟩ = some (mkStr (opAt op).name) := by
    rw [← hw2]
    have := namesC_at op ho2 w1.drew 9
    rw [Nat.zero_add] at this
    exact this
  have hop : (op : Int) < 22 := by omega
  have hg2 : Chg Non w1 w2 := by rw [← hw2]; exact ((Chg.refl Non w1).drew).alloc _
  have hH2 : w2.cell? ⟨w.heap.size, 0, none⟩ = some (.int .u8 op) := hg2.cell_some c0 (fun e => e)
  clear hw2
  refine hK.out _ _ hH2 (fun _ => ?_)
  clear hK K
  refine h_one 3 (by kernel_rfl) rfl (by kernel_rfl) ?_
  intro K hK
  go_simp
  refine hK.out _ _ hH2 (fun _ => ?_)
  clear hK K
  refine h_one 4 (by kernel_rfl) rfl (by kernel_rfl) ?_
  intro K hK
  go_simp
  refine hK.out _ _ hH2 (fun _ => ?_)
  clear hK K
  refine h_one 5 (by kernel_rfl) rfl (by kernel_rfl) ?_
  intro K hK
  go_simp
  refine hK.out _ _ hH2 (fun _ => ?_)
  clear hK K
  refine wpAnyH_done (by kernel_rfl) ?_ _
  have HB := Lib.hid (blockN hg2 HB.out)
  have HG := Lib.hid (HG.out.then_non hg2)
  clear z c0 c1 c2 c3 c4 hHeld hcell hg2 hH2 hop HN
  obtain ⟨⟨z, c0, c1, c2, c3, c4⟩, _⟩ := (Blk5.mk HB.out).all
  go_wp2_with fail
  refine (HF.out _).mono ?_
  rintro e w3 ⟨rfl, rfl⟩
  go_wp2_with fail
  go_loopw [3, 5] (fun s i wr => s = mkStr (opAt op).name ∧ i = .int .i64 0 ∧ w2 = wr) (fun _ _ _ => 0)
  case atStart => exact ⟨rfl, rfl, rfl⟩
  case round =>
    obtain ⟨rfl, rfl, rfl⟩ := hrel
    go_wp2_with fail
    go_ret
    exact ⟨rfl, HG.out⟩
/-- Text, of any instruction -/
theorem rText_ok (op a b c : Nat) (n : Int) (w : World) (hb : Ins.Bd ⟨op, a, b, c, n⟩) :
    Calls Tryd.prog 17 #[.agg #[.int .u8 op, .int .u8 a, .int .u8 b, .int .u8 c, .int .i64 n]] w fun e w' => e = .returned (mkStr (textL ⟨op, a, b, c, n⟩)) ∧ Chg Non w w' := by
  cases h : mayB ⟨op, a, b, c, n⟩ with
  | false => exact rText_not op a b c n w hb h
  | true =>
    by_cases hk : kdAt op = .none_
    · exact rText_none op a b c n w h hk
    · exact rText_some op a b c n w h hk
end Go.Proofs.YtpcmnphohneddaaDoor
