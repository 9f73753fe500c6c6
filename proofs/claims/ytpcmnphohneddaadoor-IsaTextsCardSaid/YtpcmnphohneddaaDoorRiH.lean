/- The document's answer of layer 19: Parse. (Written by wip/gen_riH.py.) -/
import Derived.Test.YtpcmnphohneddaaDoorRiF
import Derived.Test.YtpcmnphohneddaaDoorRiQ
import Derived.Test.YtpcmnphohneddaaDoorRiG
import Derived.Test.YtpcmnphohneddaaDoorHeld
import Derived.Test.YtpcmnphohneddaaDoorIsaLines
namespace Go.Proofs.YtpcmnphohneddaaDoor
open Go.RowKit
set_option linter.unusedVariables false

theorem extract_one (L : List UInt8) (k : Nat) (h : k < L.length) : (⟨L.toArray⟩ : ByteArray).extract k (k + 1) = ⟨#[L[k]]⟩ := by
  apply ByteArray.ext
  rw [ByteArray.data_extract]
  apply Array.ext'
  simp only [Array.toList_extract]
  rw [List.extract_eq_take_drop, Nat.add_sub_cancel_left]
  show List.take 1 (L.drop k) = [L[k]]
  rw [List.drop_eq_getElem_cons h]
  rfl
theorem cat_one (p : List UInt8) (c : UInt8) : (⟨p.toArray⟩ : ByteArray) ++ ⟨#[c]⟩ = ⟨(p ++ [c]).toArray⟩ := by
  apply ByteArray.ext
  rw [ByteArray.data_append]
  simp

set_option maxRecDepth 100000 in
set_option maxHeartbeats 8000000 in
theorem rParse_ok (s : List UInt8) (w : World) (hl : s.length < 1000000) :
    Calls Tryd.prog 21 #[mkStr s] w fun e w' => e = .returned (match docParse s with | some x => .tuple #[.agg (insC x), .int .i64 0] | none => .tuple #[.agg (insC Ins.zero), .int .i64 190]) ∧ Chg Non w w' := by
  obtain ⟨R, hR⟩ : ∃ R, (match docParse s with | some x => Value.tuple #[.agg (insC x), .int .i64 0] | none => .tuple #[.agg (insC Ins.zero), .int .i64 190]) = R := ⟨_, rfl⟩
  have HRn : Hid (docParse s = none → R = .tuple #[.agg #[.int .u8 0, .int .u8 0, .int .u8 0, .int .u8 0, .int .i64 0], .int .i64 190]) := Lib.hid (fun h => by rw [← hR, h]; rfl)
  have HRs : Hid (∀ x, docParse s = some x → R = .tuple #[.agg #[.int .u8 x.op, .int .u8 x.a, .int .u8 x.b, .int .u8 x.c, .int .i64 x.n], .int .i64 0]) := Lib.hid (fun x h => by rw [← hR, h]; rfl)
  rw [hR]
  clear hR
  unfold mkStr
  go_enter Tryd.func21, Tryd.ntmps21
  go_wp2_with fail
  go_loopw [4, 5, 6] (fun v pw i wr => ∃ (k : Nat) (acc : List (List UInt8)) (p : List UInt8), i = .int .i64 k ∧ pw = .string ⟨p.toArray⟩ ∧ p.length ≤ k ∧ acc.length ≤ k ∧ Chg Non (w.alloc (.cells #[.int .u8 0, .int .u8 0, .int .u8 0, .int .u8 0, .int .i64 0] 23)) wr ∧ OwnS (w.heap.size + 1) wr v acc ∧ (k ≤ s.length ∧ spG acc p (s.drop k) = splitSp s ∨ k = s.length + 1 ∧ acc = splitSp s)) (fun _ _ i _ => s.length + 2 - (intOf i).toNat)
  case atStart => exact ⟨0, [], [], rfl, rfl, Nat.le_refl _, Nat.le_refl _, Chg.refl _ _, World.ownsRow_nil _ _ _ _, .inl ⟨Nat.zero_le _, spG_split s⟩⟩
  case round =>
    obtain ⟨k, acc, p, rfl, rfl, hpk, hak, hg, ho, hrel⟩ := hrel
    have HG := Lib.hid hg
    have HO := Lib.hid ho
    clear hg ho
    rcases hrel with ⟨hk, hsp⟩ | ⟨hk, hsp⟩
    · have HS := Lib.hid hsp
      clear hsp
      have hle : decide ((k : Int) ≤ (s.length : Int)) = true := by simp; omega
      rcases Nat.lt_or_ge k s.length with hlt | hge
      · have hlti : decide ((k : Int) < (s.length : Int)) = true := by simp; omega
        by_cases hc : s[k] = 32
        · have hcb : (((((⟨s.toArray⟩ : ByteArray)[k]'(by show k < s.length; omega)).toNat : Int)) != 32) = false := by
            show ((s[k].toNat : Int) != 32) = false
            rw [hc]; decide
          go_wp2_with (refine sel (some 39) (.call _) ?_; refine Lines_stop ?_)
          refine Hole.mk ?_
          refine wpList_snocS rfl (.tmp 36) (.tmp 38) rfl (w.heap.size + 1) _ acc rfl (HO.out.non ((Chg.refl Non _).alloc _)) wr.heap.size p rfl (cell_of_one (heap_alloc_new _ _)) (by omega) (by have h1 := HG.out.size; simp at h1 ⊢; omega) ?_
          intro v2 w3 ho3 hg3 hat
          have HO3 := Lib.hid ho3
          have HG3 := Lib.hid ((HG.out.alloc _).then_new hg3 (fun x hx => by have := HO.out.ge hx; simp; omega))
          clear ho3 hg3 hat
          go_wp2_with fail
          go_roundw
          case rel => exact ⟨k + 1, acc ++ [p], [], by go_num, rfl, by simp, by simp; omega, HG3.out, HO3.out, .inl ⟨by omega, by rw [← HS.out, List.drop_eq_getElem_cons hlt]; simp only [spG]; rw [if_pos hc]⟩⟩
          case measure => simp [intOf] <;> omega
        · have hcb : (((((⟨s.toArray⟩ : ByteArray)[k]'(by show k < s.length; omega)).toNat : Int)) != 32) = true := by
            show ((s[k].toNat : Int) != 32) = true
            rw [bne_iff_ne]
            intro h
            exact hc (UInt8.toNat_inj.1 (by show (s[k]).toNat = 32; omega))
          go_wp2_with fail
          refine ⟨⟨k + 1, acc, p ++ [s[k]], by go_num, by rw [extract_one s k hlt, cat_one], by simp; omega, by omega, HG.out, HO.out, .inl ⟨by omega, by rw [← HS.out, List.drop_eq_getElem_cons hlt]; simp only [spG]; rw [if_neg hc]⟩⟩, by simp [intOf]; omega⟩
      · obtain rfl : k = s.length := by omega
        have hlti : decide ((s.length : Int) < (s.length : Int)) = false := by simp
        rw [List.drop_length] at HS
        go_wp2_with (refine sel (some 39) (.call _) ?_; refine Lines_stop ?_)
        refine Hole.mk ?_
        refine wpList_snocS rfl (.tmp 36) (.tmp 38) rfl (w.heap.size + 1) _ acc rfl (HO.out.non ((Chg.refl Non _).alloc _)) wr.heap.size p rfl (cell_of_one (heap_alloc_new _ _)) (by omega) (by have h1 := HG.out.size; simp at h1 ⊢; omega) ?_
        intro v2 w3 ho3 hg3 hat
        have HO3 := Lib.hid ho3
        have HG3 := Lib.hid ((HG.out.alloc _).then_new hg3 (fun x hx => by have := HO.out.ge hx; simp; omega))
        clear ho3 hg3 hat
        go_wp2_with fail
        go_roundw
        case rel => exact ⟨s.length + 1, acc ++ [p], [], by go_num, rfl, by simp, by simp; omega, HG3.out, HO3.out, .inr ⟨rfl, by rw [← HS.out]; rfl⟩⟩
        case measure => simp [intOf] <;> omega
    · subst hk
      have hle : decide (((s.length + 1 : Nat) : Int) ≤ (s.length : Int)) = false := by rw [decide_eq_false_iff_not]; omega
      have HMem : Hid (∀ v ∈ acc, v.length ≤ s.length) := Lib.hid (by rw [hsp]; exact splitSp_mem s)
      obtain ⟨w0, ws, hws⟩ := List.exists_cons_of_ne_nil (splitSp_ne s)
      have HTl : Hid (acc.tail = ws) := Lib.hid (by rw [hsp, hws]; rfl)
      have h0 : acc[0]? = some w0 := by rw [hsp, hws]; rfl
      have HDoc : Hid (docParse s = match opFind w0 with | some k => dpK k acc | none => none) := Lib.hid (by unfold docParse; rw [← hsp, show acc.head! = w0 by rw [hsp, hws]; rfl]; rfl)
      obtain ⟨L, hLL⟩ : ∃ L, acc = L := ⟨_, rfl⟩
      rw [hLL] at HMem HTl HDoc HO hak h0
      clear hsp hws hLL
      obtain ⟨A, cp, rfl, h1, h2, h3⟩ := HO.out.rd
      obtain ⟨b0, o0, rfl, cw⟩ := h3 0 w0 h0
      have HRd := Lib.hid h3
      rw [Nat.add_zero] at cw
      have HCw := Lib.hid cw
      have hLpos : 0 < L.length := by have := (List.getElem?_eq_some_iff.1 h0).1; omega
      clear h3 cw h0
      go_wp2_with fail
      refine (rNames_ok _).mono ?_
      rintro e w1 ⟨rfl, hw1⟩
      obtain ⟨bn, hbn⟩ : ∃ bn, wr.heap.size = bn := ⟨_, rfl⟩
      rw [hbn]
      have HCn : Hid (∀ k, k ≤ 21 → w1.cell? ⟨bn, k, none⟩ = some (mkStr (opAt k).name)) := Lib.hid (fun k hk => by
        rw [← hw1, ← hbn]
        have := namesC_at k hk wr 9
        rw [Nat.zero_add] at this
        exact this)
      have hg1 : Chg Non wr w1 := by rw [← hw1]; exact (Chg.refl Non wr).alloc _
      have HG1 := Lib.hid (HG.out.then_non hg1)
      have HGr1 := Lib.hid hg1
      clear hw1 hg1 hbn
      go_wp2_with fail
      go_loopw [8] (fun i wp => ∃ k : Nat, 1 ≤ k ∧ k ≤ 22 ∧ i = .int .i64 k ∧ Chg Non w1 wp ∧ ∀ j, 1 ≤ j → j < k → (opAt j).name ≠ w0) (fun i _ => 23 - (intOf i).toNat)
      case atStart => exact ⟨1, by omega, by omega, rfl, Chg.refl _ _, fun j h1 h2 => absurd h1 (by omega)⟩
      case round =>
        rename World => wp
        obtain ⟨k, hk1, hk2, rfl, hgp, hbef⟩ := hrel
        have HBef := Lib.hid hbef
        have HG1p := Lib.hid hgp
        have HGq := Lib.hid (HG1.out.then_non hgp)
        have HGp0 := Lib.hid (HGr1.out.then_non hgp)
        have HRp := Lib.hid (blockN HGq.out (heap_alloc_new w _))
        have HGp := Lib.hid (((Chg.refl Non w).alloc _).then_non HGq.out)
        clear hbef hgp
        rcases Nat.lt_or_ge k 22 with hlt | hge
        · have hlti : decide ((k : Int) < 22) = true := by simp; omega
          have cn : wp.cell? ⟨bn, k, none⟩ = some (.string ⟨((opAt k).name).toArray⟩) := HG1p.out.cell_some (HCn.out k (by omega)) (fun e => e)
          have hk22 : (k : Int) < 22 := by omega
          have cw0 : wp.cell? ⟨b0, o0, none⟩ = some (.string ⟨w0.toArray⟩) := HGp0.out.cell_some HCw.out (fun e => e)
          go_wp2_with fail
          refine wp_region_held_drew (S := fun W => W.cell? ⟨bn, k, none⟩ = some (.string ⟨((opAt k).name).toArray⟩) ∧ W.cell? ⟨b0, o0, none⟩ = some (.string ⟨w0.toArray⟩)) (by kernel_rfl) ⟨cn, cw0⟩ (fun hHeld => ?_)
          refine h_pure 0 (some 47) (.slice (some ⟨bn, 0, none⟩) 22 22) rfl (by kernel_rfl) (by kernel_rfl) (by kernel_rfl) (by kernel_rfl) (fun _ _ _ h => h) (by kernel_rfl) (fun W hW => by obtain ⟨hW1, hW2⟩ := hW; go_simp) hHeld ?_
          simp only [Act.put, List.setIfInBounds_toArray, List.set_cons_zero, List.set_cons_succ]
          refine h_pure 1 (some 48) (.int .i64 k) rfl (by kernel_rfl) (by kernel_rfl) (by kernel_rfl) (by kernel_rfl) (fun _ _ _ h => h) (by kernel_rfl) (fun W hW => by obtain ⟨hW1, hW2⟩ := hW; go_simp) hHeld ?_
          simp only [Act.put, List.setIfInBounds_toArray, List.set_cons_zero, List.set_cons_succ]
          refine h_pure 4 (some 51) (.slice (some ⟨b0, o0, none⟩) L.length cp) rfl (by kernel_rfl) (by kernel_rfl) (by kernel_rfl) (by kernel_rfl) (fun _ _ _ h => h) (by kernel_rfl) (fun W hW => by obtain ⟨hW1, hW2⟩ := hW; go_simp) hHeld ?_
          simp only [Act.put, List.setIfInBounds_toArray, List.set_cons_zero, List.set_cons_succ]
          refine h_pure 2 (some 49) (.pointer (some ⟨bn, k, none⟩)) rfl (by kernel_rfl) (by kernel_rfl) (by kernel_rfl) (by kernel_rfl) (fun _ _ _ h => h) (by kernel_rfl) (fun W hW => by obtain ⟨hW1, hW2⟩ := hW; go_simp) hHeld ?_
          simp only [Act.put, List.setIfInBounds_toArray, List.set_cons_zero, List.set_cons_succ]
          refine h_pure 5 (some 52) (.pointer (some ⟨b0, o0, none⟩)) rfl (by kernel_rfl) (by kernel_rfl) (by kernel_rfl) (by kernel_rfl) (fun _ _ _ h => h) (by kernel_rfl) (fun W hW => by obtain ⟨hW1, hW2⟩ := hW; go_simp) hHeld ?_
          simp only [Act.put, List.setIfInBounds_toArray, List.set_cons_zero, List.set_cons_succ]
          refine h_pure 3 (some 50) (.string ⟨((opAt k).name).toArray⟩) rfl (by kernel_rfl) (by kernel_rfl) (by kernel_rfl) (by kernel_rfl) (fun _ _ _ h => h) (by kernel_rfl) (fun W hW => by obtain ⟨hW1, hW2⟩ := hW; go_simp) hHeld ?_
          simp only [Act.put, List.setIfInBounds_toArray, List.set_cons_zero, List.set_cons_succ]
          refine h_pure 6 (some 53) (.string ⟨w0.toArray⟩) rfl (by kernel_rfl) (by kernel_rfl) (by kernel_rfl) (by kernel_rfl) (fun _ _ _ h => h) (by kernel_rfl) (fun W hW => by obtain ⟨hW1, hW2⟩ := hW; go_simp) hHeld ?_
          simp only [Act.put, List.setIfInBounds_toArray, List.set_cons_zero, List.set_cons_succ]
          refine h_pure 7 (some 54) (.bool (!((opAt k).name == w0))) rfl (by kernel_rfl) (by kernel_rfl) (by kernel_rfl) (by kernel_rfl) (fun _ _ _ h => h) (by kernel_rfl) (fun W hW => by obtain ⟨hW1, hW2⟩ := hW; go_simp) hHeld ?_
          simp only [Act.put, List.setIfInBounds_toArray, List.set_cons_zero, List.set_cons_succ]
          refine wpAnyH_done (by kernel_rfl) ?_ _
          clear hHeld
          obtain ⟨wd, hwd⟩ : ∃ wd, wp.drew = wd := ⟨_, rfl⟩
          rw [hwd]
          have hgd : Chg Non wp wd := by rw [← hwd]; exact (Chg.refl Non wp).drew
          have HG1p := Lib.hid (HG1p.out.then_non hgd)
          have HGq := Lib.hid (HGq.out.then_non hgd)
          have HGp0 := Lib.hid (HGp0.out.then_non hgd)
          have HRp := Lib.hid (blockN hgd HRp.out)
          have HGp := Lib.hid (HGp.out.then_non hgd)
          clear hgd hwd cn cw0
          rename World => wp
          by_cases hq : (opAt k).name = w0
          · have hqb : (!((opAt k).name == w0)) = false := by rw [hq]; simp
            rw [hqb]
            have HDk : Hid (docParse s = dpK k L) := Lib.hid (by rw [HDoc.out, opFind_some hk1 (by omega) hq])
            clear hq
            obtain ⟨F, hF⟩ : ∃ F, kdM (kdAt k) = F := ⟨_, rfl⟩
            have HFd := Lib.hid hF
            by_cases hkn : kdAt k = .none_
            · have HF := Lib.hid (fun W => Form_ok k W)
              rw [hkn, show (⟨(kdL .none_).toArray⟩ : ByteArray) = ⟨#[110, 111, 110, 101]⟩ from rfl] at HF
              have HF0 : Hid (F = []) := Lib.hid (by rw [← hF, hkn]; rfl)
              have hFl : F.length = 0 := by rw [HF0.out]; rfl
              clear hF hkn
              go_wp2_with fail
              refine (HF.out _).mono ?_
              rintro e w5 ⟨rfl, rfl⟩
              by_cases hlen : L.length = F.length + 1
              · have hlb : ((L.length : Int) != (F.length : Int) + 1) = false := by rw [bne_eq_false_iff_eq]; omega
                have HDp : Hid (docParse s = match dpF F ws ⟨k, 0, 0, 0, 0⟩ with | some x => if mayB x then some x else none | none => none) := Lib.hid (by rw [HDk.out]; unfold dpK; rw [HFd.out, if_pos hlen, HTl.out]; rfl)
                go_wp2_with fail
                go_loopw [11] (fun i wi => ∃ (m a b c : Nat) (n : Int), m ≤ F.length ∧ i = .int .i64 m ∧ Chg Non wp wi ∧ wi.heap[wp.heap.size]? = some (.cells #[.int .u8 k, .int .u8 a, .int .u8 b, .int .u8 c, .int .i64 n] 23 (0, 0)) ∧ Ins.Bd ⟨k, a, b, c, n⟩ ∧ dpF F ws ⟨k, 0, 0, 0, 0⟩ = dpF (F.drop m) (ws.drop m) ⟨k, a, b, c, n⟩) (fun i _ => 9 - (intOf i).toNat)
                case atStart => exact ⟨0, 0, 0, 0, 0, Nat.zero_le _, rfl, (Chg.refl Non _).alloc _, heap_alloc_new _ _, ⟨by show k < 256; omega, by show (0 : Nat) < 256; omega, by show (0 : Nat) < 256; omega, by show (0 : Nat) < 256; omega, by show -9223372036854775808 ≤ (0 : Int); omega, by show (0 : Int) ≤ 9223372036854775807; omega⟩, rfl⟩
                case round =>
                  rename World => wi
                  obtain ⟨m, a, b, c, n, hm, rfl, hgi, hbx, hyb, hdp⟩ := hrel
                  have HGi := Lib.hid hgi
                  have HYb := Lib.hid hyb
                  have HD := Lib.hid hdp
                  have HBx := Lib.hid hbx
                  have HRi := Lib.hid (blockN hgi HRp.out)
                  have HGw := Lib.hid (HGp.out.then_non hgi)
                  obtain ⟨⟨z, c0, c1, c2, c3, c4⟩, _⟩ := (Blk5.mk hbx).all
                  clear hgi hyb hdp hbx
                  rcases Nat.lt_or_ge m F.length with hlt | hge
                  · exact absurd hlt (by rw [HF0.out]; simp)
                  · have hlti : decide ((m : Int) < (F.length : Int)) = false := by simp; omega
                    obtain rfl : m = F.length := by omega
                    rw [List.drop_length] at HD
                    have HDd : Hid (docParse s = if mayB ⟨k, a, b, c, n⟩ then some ⟨k, a, b, c, n⟩ else none) := Lib.hid (by rw [HDp.out, HD.out]; rfl)
                    go_wp2_with fail
                    refine (rMay_ok k a b c n _ HYb.out).mono ?_
                    rintro e w6 ⟨rfl, hg6⟩
                    have HG6 := Lib.hid (HGw.out.then_non hg6)
                    have HR6 := Lib.hid (blockN hg6 HRi.out)
                    have hbx6 := blockN hg6 HBx.out
                    clear hg6 z c0 c1 c2 c3 c4
                    obtain ⟨⟨z, c0, c1, c2, c3, c4⟩, _⟩ := (Blk5.mk hbx6).all
                    clear hbx6
                    cases hmay : mayB ⟨k, a, b, c, n⟩ with
                    | true =>
                      have HYes : Hid (docParse s = some ⟨k, a, b, c, n⟩) := Lib.hid (by rw [HDd.out, hmay]; rfl)
                      clear hmay
                      go_wp2_with (first
                        | (refine sel none (.store 23 (.tmp 2) (.tmp 126)) ?_
                           refine wpList_store_rowA rfl 23 (.tmp 2) (.tmp 126) rfl w.heap.size #[.int .u8 k, .int .u8 a, .int .u8 b, .int .u8 c, .int .i64 n] rfl rfl 23 _ HR6.out info_rins rfl (by simp [Value.oneCell']) ?_
                           intro W hgW hbW
                           have HBW := Lib.hid hbW
                           have HGW := Lib.hid hgW
                           clear hbW hgW))
                      exact bodyPost_ret (results_ct Tryd.results21 _ _ w.heap.size 23 _ (0, 0) _ (.int .i64 0) rfl rfl HBW.out Tryd.underlying23 rfl info_rins) rfl ⟨by rw [HRs.out _ HYes.out], (HG6.out).then_new HGW.out (fun x e => by omega)⟩
                    | false =>
                      have HNo : Hid (docParse s = none) := Lib.hid (by rw [HDd.out, hmay]; rfl)
                      clear hmay
                      go_wp2_with (first
                        | (refine sel none (.store 23 (.tmp 2) (.tmp 125)) ?_
                           refine wpList_store_rowA rfl 23 (.tmp 2) (.tmp 125) rfl w.heap.size #[.int .u8 0, .int .u8 0, .int .u8 0, .int .u8 0, .int .i64 0] rfl rfl 23 _ HR6.out info_rins rfl (by simp [Value.oneCell']) ?_
                           intro W hgW hbW
                           have HBW := Lib.hid hbW
                           have HGW := Lib.hid hgW
                           clear hbW hgW))
                      exact bodyPost_ret (results_ct Tryd.results21 _ _ w.heap.size 23 _ (0, 0) _ (.int .i64 190) rfl rfl HBW.out Tryd.underlying23 rfl info_rins) rfl ⟨by rw [HRn.out HNo.out], (HG6.out).then_new HGW.out (fun x e => by omega)⟩
              · have hlb : ((L.length : Int) != (F.length : Int) + 1) = true := by rw [bne_iff_ne]; omega
                have HNo : Hid (docParse s = none) := Lib.hid (by rw [HDk.out]; unfold dpK; rw [HFd.out, if_neg hlen])
                clear hlen
                go_wp2_with (first
                  | (refine sel none (.store 23 (.tmp 2) (.tmp 69)) ?_
                     refine wpList_store_rowA rfl 23 (.tmp 2) (.tmp 69) rfl w.heap.size #[.int .u8 0, .int .u8 0, .int .u8 0, .int .u8 0, .int .i64 0] rfl rfl 23 _ (blockN ((Chg.refl Non _).alloc _) HRp.out) info_rins rfl (by simp [Value.oneCell']) ?_
                     intro W hgW hbW
                     have HBW := Lib.hid hbW
                     have HGW := Lib.hid hgW
                     clear hbW hgW))
                exact bodyPost_ret (results_ct Tryd.results21 _ _ w.heap.size 23 _ (0, 0) _ (.int .i64 190) rfl rfl HBW.out Tryd.underlying23 rfl info_rins) rfl ⟨by rw [HRn.out HNo.out], (HGp.out.alloc _).then_new HGW.out (fun x e => by omega)⟩
            · have HF := Lib.hid (fun W => Form_ok k W)
              rw [← kdL_M hkn, hF] at HF
              have hlet := kdM_let k
              rw [hF] at hlet
              have HLet := Lib.hid hlet
              have hF3 := kdM_len k
              rw [hF] at hF3
              have hne : (F == [110, 111, 110, 101]) = false := by
                rw [beq_eq_false_iff_ne]
                rintro rfl
                simp at hF3
              clear hF hkn hlet
              go_wp2_with fail
              refine (HF.out _).mono ?_
              rintro e w5 ⟨rfl, rfl⟩
              by_cases hlen : L.length = F.length + 1
              · have hlb : ((L.length : Int) != (F.length : Int) + 1) = false := by rw [bne_eq_false_iff_eq]; omega
                have HDp : Hid (docParse s = match dpF F ws ⟨k, 0, 0, 0, 0⟩ with | some x => if mayB x then some x else none | none => none) := Lib.hid (by rw [HDk.out]; unfold dpK; rw [HFd.out, if_pos hlen, HTl.out]; rfl)
                go_wp2_with fail
                go_loopw [11] (fun i wi => ∃ (m a b c : Nat) (n : Int), m ≤ F.length ∧ i = .int .i64 m ∧ Chg Non wp wi ∧ wi.heap[wp.heap.size]? = some (.cells #[.int .u8 k, .int .u8 a, .int .u8 b, .int .u8 c, .int .i64 n] 23 (0, 0)) ∧ Ins.Bd ⟨k, a, b, c, n⟩ ∧ dpF F ws ⟨k, 0, 0, 0, 0⟩ = dpF (F.drop m) (ws.drop m) ⟨k, a, b, c, n⟩) (fun i _ => 9 - (intOf i).toNat)
                case atStart => exact ⟨0, 0, 0, 0, 0, Nat.zero_le _, rfl, (Chg.refl Non _).alloc _, heap_alloc_new _ _, ⟨by show k < 256; omega, by show (0 : Nat) < 256; omega, by show (0 : Nat) < 256; omega, by show (0 : Nat) < 256; omega, by show -9223372036854775808 ≤ (0 : Int); omega, by show (0 : Int) ≤ 9223372036854775807; omega⟩, rfl⟩
                case round =>
                  rename World => wi
                  obtain ⟨m, a, b, c, n, hm, rfl, hgi, hbx, hyb, hdp⟩ := hrel
                  have HGi := Lib.hid hgi
                  have HYb := Lib.hid hyb
                  have HD := Lib.hid hdp
                  have HBx := Lib.hid hbx
                  have HRi := Lib.hid (blockN hgi HRp.out)
                  have HGw := Lib.hid (HGp.out.then_non hgi)
                  obtain ⟨⟨z, c0, c1, c2, c3, c4⟩, _⟩ := (Blk5.mk hbx).all
                  clear hgi hyb hdp hbx
                  rcases Nat.lt_or_ge m F.length with hlt | hge
                  · have hlti : decide ((m : Int) < (F.length : Int)) = true := by simp; omega
                    have hmw : m < ws.length := by have := HTl.out; rw [← this, List.length_tail]; omega
                    have hL1 : L[m + 1]? = some ws[m] := by rw [← List.getElem?_tail, HTl.out, List.getElem?_eq_getElem hmw]
                    have hmem : ws[m] ∈ L := List.mem_of_getElem? hL1
                    obtain ⟨bw, ow, hA, hcw⟩ := HRd.out (m + 1) _ hL1
                    have hcw2 : wi.cell? ⟨bw, ow + (m + 1), none⟩ = some (.string ⟨(ws[m]).toArray⟩) := HGi.out.cell_some (HGp0.out.cell_some hcw (fun e => e)) (fun e => e)
                    have hvl := HMem.out _ hmem
                    obtain ⟨v, hv⟩ : ∃ v, ws[m] = v := ⟨_, rfl⟩
                    rw [hv] at hcw2 hvl
                    have hdr : dpF (F.drop m) (ws.drop m) ⟨k, a, b, c, n⟩ = if badL F[m] (digV v) then none else dpF (F.drop (m + 1)) (ws.drop (m + 1)) (setL ⟨k, a, b, c, n⟩ F[m] (digV v).toNat) := by
                      rw [List.drop_eq_getElem_cons hlt, List.drop_eq_getElem_cons hmw, hv]
                      rfl
                    have HDr := Lib.hid hdr
                    have HLt := HLet.out m hlt
                    have hmL : (m : Int) + 1 < (L.length : Int) := by omega
                    rw [hA]
                    clear hv hmem hL1 hcw hdr
                    go_wp2_with fail
                    refine (rDigits_ok v _ (by omega)).mono ?_
                    rintro e w6 ⟨rfl, rfl⟩
                    rcases Int.lt_or_le (digV v) 0 with hneg | hpos
                    · have hnb : decide (digV v < 0) = true := by simpa using hneg
                      have hno : docParse s = none := by rw [HDp.out, HD.out, HDr.out, if_pos (by simp [badL, hneg])]
                      have HNo := Lib.hid hno
                      clear hno
                      go_wp2_with (first
                        | (refine sel none (.store 23 (.tmp 2) (.tmp 94)) ?_
                           refine wpList_store_rowA rfl 23 (.tmp 2) (.tmp 94) rfl w.heap.size #[.int .u8 0, .int .u8 0, .int .u8 0, .int .u8 0, .int .i64 0] rfl rfl 23 _ HRi.out info_rins rfl (by simp [Value.oneCell']) ?_
                           intro W hgW hbW
                           have HBW := Lib.hid hbW
                           have HGW := Lib.hid hgW
                           clear hbW hgW))
                      exact bodyPost_ret (results_ct Tryd.results21 _ _ w.heap.size 23 _ (0, 0) _ (.int .i64 190) rfl rfl HBW.out Tryd.underlying23 rfl info_rins) rfl ⟨by rw [HRn.out HNo.out], (HGw.out).then_new HGW.out (fun x e => by omega)⟩
                    · obtain ⟨d, hd⟩ : ∃ d : Nat, digV v = d := ⟨(digV v).toNat, by omega⟩
                      have hd5 := (digV_some v d hd).2
                      have hnb : decide ((d : Int) < 0) = false := by simp
                      rw [hd] at HDr ⊢
                      have e0 : (d : Int).toNat = d := by omega
                      rw [e0] at HDr
                      clear hpos e0
                      rcases HLt with e | e | e | e
                      · have q10 : (((((⟨F.toArray⟩ : ByteArray)[m]'(by show m < F.length; omega)).toNat : Int)) != 110) = true := by
                          show ((F[m].toNat : Int) != 110) = _
                          rw [e]; decide
                        have q97 : (((((⟨F.toArray⟩ : ByteArray)[m]'(by show m < F.length; omega)).toNat : Int)) == 97) = true := by
                          show ((F[m].toNat : Int) == 97) = _
                          rw [e]; decide
                        have q98 : (((((⟨F.toArray⟩ : ByteArray)[m]'(by show m < F.length; omega)).toNat : Int)) == 98) = false := by
                          show ((F[m].toNat : Int) == 98) = _
                          rw [e]; decide
                        have q99 : (((((⟨F.toArray⟩ : ByteArray)[m]'(by show m < F.length; omega)).toNat : Int)) == 99) = false := by
                          show ((F[m].toNat : Int) == 99) = _
                          rw [e]; decide
                        have q110 : (((((⟨F.toArray⟩ : ByteArray)[m]'(by show m < F.length; omega)).toNat : Int)) == 110) = false := by
                          show ((F[m].toNat : Int) == 110) = _
                          rw [e]; decide
                        rcases Nat.lt_or_ge 7 d with h7 | h7
                        · have hgt : decide ((d : Int) > 7) = true := by simp; omega
                          have hno : docParse s = none := by rw [HDp.out, HD.out, HDr.out, if_pos (by rw [e]; simp [badL]; omega)]
                          have HNo := Lib.hid hno
                          clear hno e
                          go_wp2_with (first
                            | (refine sel none (.store 23 (.tmp 2) (.tmp 94)) ?_
                               refine wpList_store_rowA rfl 23 (.tmp 2) (.tmp 94) rfl w.heap.size #[.int .u8 0, .int .u8 0, .int .u8 0, .int .u8 0, .int .i64 0] rfl rfl 23 _ HRi.out info_rins rfl (by simp [Value.oneCell']) ?_
                               intro W hgW hbW
                               have HBW := Lib.hid hbW
                               have HGW := Lib.hid hgW
                               clear hbW hgW))
                          exact bodyPost_ret (results_ct Tryd.results21 _ _ w.heap.size 23 _ (0, 0) _ (.int .i64 190) rfl rfl HBW.out Tryd.underlying23 rfl info_rins) rfl ⟨by rw [HRn.out HNo.out], (HGw.out).then_new HGW.out (fun x e => by omega)⟩
                        · have hgt : decide ((d : Int) > 7) = false := by simp; omega
                          have HS : Hid (setL ⟨k, a, b, c, n⟩ F[m] d = ⟨k, d, b, c, n⟩) := Lib.hid (by rw [e]; rfl)
                          have HSb : Hid (Ins.Bd (setL ⟨k, a, b, c, n⟩ F[m] d)) := Lib.hid (setL_bd _ _ d HYb.out hd5 (by intro _; omega) (by rw [e]; decide))
                          rw [HS.out] at HSb HDr
                          have HDs := Lib.hid HDr.out
                          rw [if_neg (by rw [e]; simp [badL]; omega)] at HDs
                          clear e
                          go_wp2_with fail
                          go_roundw
                          case rel => exact ⟨m + 1, d, b, c, n, by omega, by go_num, HGi.out.setCell (p := ⟨wp.heap.size, 1, none⟩) (.inr (Nat.le_refl _)) _, heap_setCellI _ HBx.out, HSb.out, by rw [HD.out, HDs.out]⟩
                          case measure => simp [intOf]; omega
                      · have q10 : (((((⟨F.toArray⟩ : ByteArray)[m]'(by show m < F.length; omega)).toNat : Int)) != 110) = true := by
                          show ((F[m].toNat : Int) != 110) = _
                          rw [e]; decide
                        have q97 : (((((⟨F.toArray⟩ : ByteArray)[m]'(by show m < F.length; omega)).toNat : Int)) == 97) = false := by
                          show ((F[m].toNat : Int) == 97) = _
                          rw [e]; decide
                        have q98 : (((((⟨F.toArray⟩ : ByteArray)[m]'(by show m < F.length; omega)).toNat : Int)) == 98) = true := by
                          show ((F[m].toNat : Int) == 98) = _
                          rw [e]; decide
                        have q99 : (((((⟨F.toArray⟩ : ByteArray)[m]'(by show m < F.length; omega)).toNat : Int)) == 99) = false := by
                          show ((F[m].toNat : Int) == 99) = _
                          rw [e]; decide
                        have q110 : (((((⟨F.toArray⟩ : ByteArray)[m]'(by show m < F.length; omega)).toNat : Int)) == 110) = false := by
                          show ((F[m].toNat : Int) == 110) = _
                          rw [e]; decide
                        rcases Nat.lt_or_ge 7 d with h7 | h7
                        · have hgt : decide ((d : Int) > 7) = true := by simp; omega
                          have hno : docParse s = none := by rw [HDp.out, HD.out, HDr.out, if_pos (by rw [e]; simp [badL]; omega)]
                          have HNo := Lib.hid hno
                          clear hno e
                          go_wp2_with (first
                            | (refine sel none (.store 23 (.tmp 2) (.tmp 94)) ?_
                               refine wpList_store_rowA rfl 23 (.tmp 2) (.tmp 94) rfl w.heap.size #[.int .u8 0, .int .u8 0, .int .u8 0, .int .u8 0, .int .i64 0] rfl rfl 23 _ HRi.out info_rins rfl (by simp [Value.oneCell']) ?_
                               intro W hgW hbW
                               have HBW := Lib.hid hbW
                               have HGW := Lib.hid hgW
                               clear hbW hgW))
                          exact bodyPost_ret (results_ct Tryd.results21 _ _ w.heap.size 23 _ (0, 0) _ (.int .i64 190) rfl rfl HBW.out Tryd.underlying23 rfl info_rins) rfl ⟨by rw [HRn.out HNo.out], (HGw.out).then_new HGW.out (fun x e => by omega)⟩
                        · have hgt : decide ((d : Int) > 7) = false := by simp; omega
                          have HS : Hid (setL ⟨k, a, b, c, n⟩ F[m] d = ⟨k, a, d, c, n⟩) := Lib.hid (by rw [e]; rfl)
                          have HSb : Hid (Ins.Bd (setL ⟨k, a, b, c, n⟩ F[m] d)) := Lib.hid (setL_bd _ _ d HYb.out hd5 (by intro _; omega) (by rw [e]; decide))
                          rw [HS.out] at HSb HDr
                          have HDs := Lib.hid HDr.out
                          rw [if_neg (by rw [e]; simp [badL]; omega)] at HDs
                          clear e
                          go_wp2_with fail
                          go_roundw
                          case rel => exact ⟨m + 1, a, d, c, n, by omega, by go_num, HGi.out.setCell (p := ⟨wp.heap.size, 2, none⟩) (.inr (Nat.le_refl _)) _, heap_setCellI _ HBx.out, HSb.out, by rw [HD.out, HDs.out]⟩
                          case measure => simp [intOf]; omega
                      · have q10 : (((((⟨F.toArray⟩ : ByteArray)[m]'(by show m < F.length; omega)).toNat : Int)) != 110) = true := by
                          show ((F[m].toNat : Int) != 110) = _
                          rw [e]; decide
                        have q97 : (((((⟨F.toArray⟩ : ByteArray)[m]'(by show m < F.length; omega)).toNat : Int)) == 97) = false := by
                          show ((F[m].toNat : Int) == 97) = _
                          rw [e]; decide
                        have q98 : (((((⟨F.toArray⟩ : ByteArray)[m]'(by show m < F.length; omega)).toNat : Int)) == 98) = false := by
                          show ((F[m].toNat : Int) == 98) = _
                          rw [e]; decide
                        have q99 : (((((⟨F.toArray⟩ : ByteArray)[m]'(by show m < F.length; omega)).toNat : Int)) == 99) = true := by
                          show ((F[m].toNat : Int) == 99) = _
                          rw [e]; decide
                        have q110 : (((((⟨F.toArray⟩ : ByteArray)[m]'(by show m < F.length; omega)).toNat : Int)) == 110) = false := by
                          show ((F[m].toNat : Int) == 110) = _
                          rw [e]; decide
                        rcases Nat.lt_or_ge 7 d with h7 | h7
                        · have hgt : decide ((d : Int) > 7) = true := by simp; omega
                          have hno : docParse s = none := by rw [HDp.out, HD.out, HDr.out, if_pos (by rw [e]; simp [badL]; omega)]
                          have HNo := Lib.hid hno
                          clear hno e
                          go_wp2_with (first
                            | (refine sel none (.store 23 (.tmp 2) (.tmp 94)) ?_
                               refine wpList_store_rowA rfl 23 (.tmp 2) (.tmp 94) rfl w.heap.size #[.int .u8 0, .int .u8 0, .int .u8 0, .int .u8 0, .int .i64 0] rfl rfl 23 _ HRi.out info_rins rfl (by simp [Value.oneCell']) ?_
                               intro W hgW hbW
                               have HBW := Lib.hid hbW
                               have HGW := Lib.hid hgW
                               clear hbW hgW))
                          exact bodyPost_ret (results_ct Tryd.results21 _ _ w.heap.size 23 _ (0, 0) _ (.int .i64 190) rfl rfl HBW.out Tryd.underlying23 rfl info_rins) rfl ⟨by rw [HRn.out HNo.out], (HGw.out).then_new HGW.out (fun x e => by omega)⟩
                        · have hgt : decide ((d : Int) > 7) = false := by simp; omega
                          have HS : Hid (setL ⟨k, a, b, c, n⟩ F[m] d = ⟨k, a, b, d, n⟩) := Lib.hid (by rw [e]; rfl)
                          have HSb : Hid (Ins.Bd (setL ⟨k, a, b, c, n⟩ F[m] d)) := Lib.hid (setL_bd _ _ d HYb.out hd5 (by intro _; omega) (by rw [e]; decide))
                          rw [HS.out] at HSb HDr
                          have HDs := Lib.hid HDr.out
                          rw [if_neg (by rw [e]; simp [badL]; omega)] at HDs
                          clear e
                          go_wp2_with fail
                          go_roundw
                          case rel => exact ⟨m + 1, a, b, d, n, by omega, by go_num, HGi.out.setCell (p := ⟨wp.heap.size, 3, none⟩) (.inr (Nat.le_refl _)) _, heap_setCellI _ HBx.out, HSb.out, by rw [HD.out, HDs.out]⟩
                          case measure => simp [intOf]; omega
                      · have q10 : (((((⟨F.toArray⟩ : ByteArray)[m]'(by show m < F.length; omega)).toNat : Int)) != 110) = false := by
                          show ((F[m].toNat : Int) != 110) = _
                          rw [e]; decide
                        have q97 : (((((⟨F.toArray⟩ : ByteArray)[m]'(by show m < F.length; omega)).toNat : Int)) == 97) = false := by
                          show ((F[m].toNat : Int) == 97) = _
                          rw [e]; decide
                        have q98 : (((((⟨F.toArray⟩ : ByteArray)[m]'(by show m < F.length; omega)).toNat : Int)) == 98) = false := by
                          show ((F[m].toNat : Int) == 98) = _
                          rw [e]; decide
                        have q99 : (((((⟨F.toArray⟩ : ByteArray)[m]'(by show m < F.length; omega)).toNat : Int)) == 99) = false := by
                          show ((F[m].toNat : Int) == 99) = _
                          rw [e]; decide
                        have q110 : (((((⟨F.toArray⟩ : ByteArray)[m]'(by show m < F.length; omega)).toNat : Int)) == 110) = true := by
                          show ((F[m].toNat : Int) == 110) = _
                          rw [e]; decide
                        have HS : Hid (setL ⟨k, a, b, c, n⟩ F[m] d = ⟨k, a, b, c, d⟩) := Lib.hid (by rw [e]; rfl)
                        have HSb : Hid (Ins.Bd (setL ⟨k, a, b, c, n⟩ F[m] d)) := Lib.hid (setL_bd _ _ d HYb.out hd5 (by intro h; exact absurd e h) (by rw [e]; decide))
                        rw [HS.out] at HSb HDr
                        have HDs := Lib.hid HDr.out
                        rw [if_neg (by rw [e]; simp [badL])] at HDs
                        clear e
                        go_wp2_with fail
                        go_roundw
                        case rel => exact ⟨m + 1, a, b, c, d, by omega, by go_num, HGi.out.setCell (p := ⟨wp.heap.size, 4, none⟩) (.inr (Nat.le_refl _)) _, heap_setCellI _ HBx.out, HSb.out, by rw [HD.out, HDs.out]⟩
                        case measure => simp [intOf]; omega
                  · have hlti : decide ((m : Int) < (F.length : Int)) = false := by simp; omega
                    obtain rfl : m = F.length := by omega
                    rw [List.drop_length] at HD
                    have HDd : Hid (docParse s = if mayB ⟨k, a, b, c, n⟩ then some ⟨k, a, b, c, n⟩ else none) := Lib.hid (by rw [HDp.out, HD.out]; rfl)
                    go_wp2_with fail
                    refine (rMay_ok k a b c n _ HYb.out).mono ?_
                    rintro e w6 ⟨rfl, hg6⟩
                    have HG6 := Lib.hid (HGw.out.then_non hg6)
                    have HR6 := Lib.hid (blockN hg6 HRi.out)
                    have hbx6 := blockN hg6 HBx.out
                    clear hg6 z c0 c1 c2 c3 c4
                    obtain ⟨⟨z, c0, c1, c2, c3, c4⟩, _⟩ := (Blk5.mk hbx6).all
                    clear hbx6
                    cases hmay : mayB ⟨k, a, b, c, n⟩ with
                    | true =>
                      have HYes : Hid (docParse s = some ⟨k, a, b, c, n⟩) := Lib.hid (by rw [HDd.out, hmay]; rfl)
                      clear hmay
                      go_wp2_with (first
                        | (refine sel none (.store 23 (.tmp 2) (.tmp 126)) ?_
                           refine wpList_store_rowA rfl 23 (.tmp 2) (.tmp 126) rfl w.heap.size #[.int .u8 k, .int .u8 a, .int .u8 b, .int .u8 c, .int .i64 n] rfl rfl 23 _ HR6.out info_rins rfl (by simp [Value.oneCell']) ?_
                           intro W hgW hbW
                           have HBW := Lib.hid hbW
                           have HGW := Lib.hid hgW
                           clear hbW hgW))
                      exact bodyPost_ret (results_ct Tryd.results21 _ _ w.heap.size 23 _ (0, 0) _ (.int .i64 0) rfl rfl HBW.out Tryd.underlying23 rfl info_rins) rfl ⟨by rw [HRs.out _ HYes.out], (HG6.out).then_new HGW.out (fun x e => by omega)⟩
                    | false =>
                      have HNo : Hid (docParse s = none) := Lib.hid (by rw [HDd.out, hmay]; rfl)
                      clear hmay
                      go_wp2_with (first
                        | (refine sel none (.store 23 (.tmp 2) (.tmp 125)) ?_
                           refine wpList_store_rowA rfl 23 (.tmp 2) (.tmp 125) rfl w.heap.size #[.int .u8 0, .int .u8 0, .int .u8 0, .int .u8 0, .int .i64 0] rfl rfl 23 _ HR6.out info_rins rfl (by simp [Value.oneCell']) ?_
                           intro W hgW hbW
                           have HBW := Lib.hid hbW
                           have HGW := Lib.hid hgW
                           clear hbW hgW))
                      exact bodyPost_ret (results_ct Tryd.results21 _ _ w.heap.size 23 _ (0, 0) _ (.int .i64 190) rfl rfl HBW.out Tryd.underlying23 rfl info_rins) rfl ⟨by rw [HRn.out HNo.out], (HG6.out).then_new HGW.out (fun x e => by omega)⟩
              · have hlb : ((L.length : Int) != (F.length : Int) + 1) = true := by rw [bne_iff_ne]; omega
                have HNo : Hid (docParse s = none) := Lib.hid (by rw [HDk.out]; unfold dpK; rw [HFd.out, if_neg hlen])
                clear hlen
                go_wp2_with (first
                  | (refine sel none (.store 23 (.tmp 2) (.tmp 69)) ?_
                     refine wpList_store_rowA rfl 23 (.tmp 2) (.tmp 69) rfl w.heap.size #[.int .u8 0, .int .u8 0, .int .u8 0, .int .u8 0, .int .i64 0] rfl rfl 23 _ (blockN ((Chg.refl Non _).alloc _) HRp.out) info_rins rfl (by simp [Value.oneCell']) ?_
                     intro W hgW hbW
                     have HBW := Lib.hid hbW
                     have HGW := Lib.hid hgW
                     clear hbW hgW))
                exact bodyPost_ret (results_ct Tryd.results21 _ _ w.heap.size 23 _ (0, 0) _ (.int .i64 190) rfl rfl HBW.out Tryd.underlying23 rfl info_rins) rfl ⟨by rw [HRn.out HNo.out], (HGp.out.alloc _).then_new HGW.out (fun x e => by omega)⟩
          · have hqb : (!((opAt k).name == w0)) = true := by rw [Bool.not_eq_true', beq_eq_false_iff_ne]; exact hq
            rw [hqb]
            go_wp2_with fail
            refine ⟨⟨k + 1, by omega, by omega, by go_num, HG1p.out, fun j h1 h2 => ?_⟩, by simp [intOf]; omega⟩
            rcases Nat.lt_or_ge j k with h | h
            · exact HBef.out j h1 h
            · obtain rfl : j = k := by omega
              exact hq
        · obtain rfl : k = 22 := by omega
          have HNo : Hid (docParse s = none) := Lib.hid (by rw [HDoc.out, opFind_none (fun j h1 h2 => HBef.out j h1 (by omega))])
          go_wp2_with (first
            | (refine sel none (.store 23 (.tmp 2) (.tmp 127)) ?_
               refine wpList_store_rowA rfl 23 (.tmp 2) (.tmp 127) rfl w.heap.size #[.int .u8 0, .int .u8 0, .int .u8 0, .int .u8 0, .int .i64 0] rfl rfl 23 _ HRp.out info_rins rfl (by simp [Value.oneCell']) ?_
               intro W hgW hbW
               have HBW := Lib.hid hbW
               have HGW := Lib.hid hgW
               clear hbW hgW))
          exact bodyPost_ret (results_ct Tryd.results21 _ _ w.heap.size 23 _ (0, 0) _ (.int .i64 190) rfl rfl HBW.out Tryd.underlying23 rfl info_rins) rfl ⟨by rw [HRn.out HNo.out], (HGp.out).then_new HGW.out (fun x e => by omega)⟩

end Go.Proofs.YtpcmnphohneddaaDoor
