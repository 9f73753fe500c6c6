/- Plain: each act on the program's disk and on the document's keeps them the same, and within bounds. No walk.
   The document's disk (citadelref06): falls, Crash, Start, Arm, Read, Write, Flush.
   The document's answer for layer 16 (citadelref16): Put.
   The document's answer for layer 5 (citadelref05): Reader.Byte, Flag.
   The document's answer for layer 5 (citadelref05): Reader.Tag, End.
   The document's answer for layer 16 (citadelref16): read.
   The document's answer for layer 16 (citadelref16): Get.
   CommitPlays: both disks in memory, as one predicate; each act's contract on it.
   A call that changes nothing that was there, and whose arguments read as before: the row's last step (as 'post_of_same', with 'Below' for the two frames). No condition of the program.
   Arguments of any type: read behind a call that changed nothing that was there as they read before; bytes opened. No condition of the program but three closed facts on its types.
   A parameter that is a commit record, opened.
   Sizes: what the form says of each slice's bytes, however deep it lies in an argument.
   CommitPlays: acts of a script, read where they lie; a parameter that is a slice of them, opened. -/
import Derived.Test.YtgmpacndjmmgjaaGreatMgCommitPlaysA
import Derived.Test.YtgmpacndjmmgjaaGreatMgCommitPlaysB
import Derived.Test.YtgmpacndjmmgjaaGreatMgCommitPlaysC
import Derived.Deep.Slices
import Derived.OpenShut
import Derived.ProofKit
import Derived.ReadAgain
import Derived.SizedLaws
import Derived.WalkKit
section
namespace Go.Proofs.YtgmpacndjmmgjaaGreat
open Go.RowKit
set_option linter.unusedVariables false

theorem sz_fall {D : Dk} (st : List UInt8) : (D.fall st).Sz := ⟨by simp [Dk.fall], by simp [Dk.fall]⟩
theorem sz_flush {D : Dk} (h : D.Sz) : D.flush.1.Sz := by
  unfold Dk.flush Dk.operate
  repeat' split
  all_goals first
    | exact h
    | exact sz_fall _
    | exact ⟨h.stay, by have := h.left; show max (D.left - 1) 0 ≤ _; omega⟩
theorem sz_crash {D : Dk} (h : D.Sz) (st : List UInt8) : (D.crash st).1.Sz := by
  unfold Dk.crash
  split
  · exact h
  · exact sz_fall _
theorem sz_start {D : Dk} (h : D.Sz) : D.start.1.Sz := by
  unfold Dk.start
  split
  · exact h
  · exact ⟨h.stay, h.left⟩
theorem sz_arm {D : Dk} (h : D.Sz) (n : Int) (l : List UInt8) (hn : n ≤ 9223372036854775807) (hl : l.length ≤ 1000000) : (D.arm n l).1.Sz := by
  unfold Dk.arm
  repeat' split
  all_goals first
    | exact h
    | exact ⟨hl, hn⟩
theorem sz_put {D : Dk} (h : D.Sz) (r : Rec) : (cPut D r).1.Sz := by
  unfold cPut
  split
  · exact h
  · simp only
    split
    · exact cwrite_sz h _ _
    · exact sz_flush (cwrite_sz h _ _)
theorem len_operate {D : Dk} (f : Dk → Dk) (hf : ∀ D : Dk, (f D).sec.length = D.sec.length) (hok : D.Ok) : (D.operate f).1.sec.length = D.sec.length := by
  unfold Dk.operate
  split
  · exact (spillTo_ok hok _ _).1
  · exact hf _
theorem len_write {D : Dk} (hok : D.Ok) (i : Int) (b : List UInt8) : (D.write i b).1.sec.length = D.sec.length := by
  unfold Dk.write
  repeat' split
  all_goals first
    | rfl
    | exact len_operate _ (fun _ => rfl) hok
theorem rlen_fallL (st : List UInt8) : ∀ (l : List (List UInt8 × Option (List UInt8))) (n : Nat), (Rk.fallL st n l).length = l.length := fun l n => fallL_len st l n
theorem rlen_falls (E : Rk) : E.falls.1.l.length = E.l.length := by
  unfold Rk.falls
  repeat' split
  all_goals first
    | rfl
    | exact rlen_fallL _ _ _
theorem rlen_write (E : Rk) (i : Int) (b : List UInt8) : (E.write i b).1.l.length = E.l.length := by
  unfold Rk.write
  repeat' split
  all_goals first
    | rfl
    | exact rlen_falls _
    | (simp only [List.length_set]; exact rlen_falls _)
theorem rlen_flush (E : Rk) : E.flush.1.l.length = E.l.length := by
  unfold Rk.flush
  repeat' split
  all_goals first
    | rfl
    | exact rlen_falls _
    | (simp only [Rk.flushL, List.length_map]; exact rlen_falls _)
theorem rlen_crash (E : Rk) (st : List UInt8) : (E.crash st).1.l.length = E.l.length := by
  unfold Rk.crash
  split
  · rfl
  · exact rlen_fallL _ _ _
theorem rlen_start (E : Rk) : E.start.1.l.length = E.l.length := by
  unfold Rk.start
  split <;> rfl
theorem rlen_arm (E : Rk) (n : Int) (st : List UInt8) : (E.arm n st).1.l.length = E.l.length := by
  unfold Rk.arm
  repeat' split
  all_goals rfl
theorem rlen_put (E : Rk) (r : Rec) : (rPutV E r).1.l.length = E.l.length := by
  unfold rPutV
  split
  · rfl
  · simp only
    split
    · exact rlen_write _ _ _
    · rw [rlen_flush]; exact rlen_write _ _ _
/-- the two disks are the same, and within bounds -/
structure Twin (n : Nat) (D : Dk) (E : Rk) : Prop where
  ok : D.Ok
  sz : D.Sz
  same : DSame D E
  len : E.l.length = n
theorem Twin.dlen {n : Nat} {D : Dk} {E : Rk} (h : Twin n D E) : D.sec.length = n := by rw [← h.same.len, h.len]
theorem Twin.sec {n : Nat} {D : Dk} {E : Rk} (h : Twin n D E) {i : Nat} {f : List UInt8} {c : Option (List UInt8)} (hi : E.l[i]? = some (f, c)) : f.length = 64 ∧ ∀ b, c = some b → b.length = 64 := by
  constructor
  · refine h.ok.secs f ?_
    rw [← h.same.fl]
    exact List.mem_map.2 ⟨(f, c), List.mem_of_getElem? hi, rfl⟩
  · rintro b rfl
    have hl := h.same.ca i
    rw [hi] at hl
    simp only [Option.bind_some] at hl
    unfold look at hl
    obtain ⟨q, hq, e⟩ := Option.map_eq_some_iff.1 hl.symm
    rw [← e]
    exact (h.ok.keys q (List.mem_of_find?_eq_some hq)).2
theorem put_same {D : Dk} {E : Rk} (r : Rec) (hok : D.Ok) (hok2 : (D.write (r.seqn % 2) (sealL 1 (recForm r))).1.Ok) (h : DSame D E) : DSame (cPut D r).1 (rPutV E r).1 ∧ (cPut D r).2 = (rPutV E r).2 := by
  unfold cPut rPutV
  by_cases hm : r.may = false
  · rw [if_pos hm, if_pos hm]; exact ⟨h, rfl⟩
  · rw [if_neg hm, if_neg hm]
    have hmt : r.may = true := by simpa using hm
    rw [formU_form r (may_true hmt).2.1]
    have hw := write_same hok h (r.seqn % 2) (sealL 1 (recForm r))
    simp only
    rw [← hw.2]
    split
    · exact hw
    · exact flush_same hok2 hw.1
theorem ok_fall {D : Dk} (h : D.Ok) (st : List UInt8) : (D.fall st).Ok := by
  obtain ⟨h1, h2⟩ := spillTo_ok h (Dk.bit st) D.cache.length
  refine ⟨h2, by simp [Dk.fall, Dk.spill], by simp [Dk.fall, Dk.spill], ?_, by simp [Dk.fall]⟩
  show (D.spillTo (Dk.bit st) D.cache.length).length ≤ 1024
  rw [h1]
  exact h.most
theorem ok_write {D : Dk} (h : D.Ok) (i : Int) (b : List UInt8) : (D.write i b).1.Ok := by
  unfold Dk.write
  split
  · exact h
  split
  · exact h
  rename_i hi
  split
  · exact h
  rename_i hb
  unfold Dk.operate
  split
  · exact ok_fall h _
  · have hu := upd_ok h.nodup h.keys (i := i.toNat) (l := b) (by omega) (by omega)
    exact ⟨h.secs, hu.2, hu.1, h.most, by show 0 ≤ max (D.left - 1) 0; omega⟩
theorem twin_put {n : Nat} {D : Dk} {E : Rk} (h : Twin n D E) (r : Rec) : DSame (cPut D r).1 (rPutV E r).1 ∧ (cPut D r).2 = (rPutV E r).2 := put_same r h.ok (ok_write h.ok _ _) h.same
/-- what a Get tells of the program's disk -/
def gTell (D : Dk) : Rec × Rec × Int := if D.up = false then (Rec.zero, Rec.zero, 60) else if D.sec.length < 2 then (Rec.zero, Rec.zero, 61) else cTell (cAt D 0) (cAt D 1)
def rkAt (E : Rk) (i : Nat) : List UInt8 := match E.l[i]? with | some (f, c) => c.getD f | none => []
theorem rkAt_some {E : Rk} {i : Nat} {f : List UInt8} {c : Option (List UInt8)} (h : E.l[i]? = some (f, c)) : rkAt E i = c.getD f := by
  unfold rkAt
  rw [h]
def rGetV (E : Rk) : Rec × Rec × Int := if E.down = true then (Rec.zero, Rec.zero, 60) else if E.l.length < 2 then (Rec.zero, Rec.zero, 61) else rTell (rAt (rkAt E 0) 0) (rAt (rkAt E 1) 1)
theorem at_rk {D : Dk} {E : Rk} (h : DSame D E) {i : Nat} (hi : i < E.l.length) : D.at_ i = rkAt E i ∧ ∃ f c, E.l[i]? = some (f, c) ∧ D.sec.getD i [] = f := by
  obtain ⟨⟨f, c⟩, hx⟩ : ∃ x, E.l[i]? = some x := ⟨_, List.getElem?_eq_getElem hi⟩
  have := at_same h i f c hx
  exact ⟨by rw [rkAt_some hx]; exact this.1, f, c, hx, this.2⟩
theorem get_same {D : Dk} {E : Rk} (h : DSame D E) : gTell D = rGetV E := by
  unfold gTell rGetV
  simp only [up_iff h]
  rw [← h.len]
  split
  · rfl
  split
  · rfl
  · rename_i hl
    have h0 := (at_rk h (i := 0) (by omega)).1
    have h1 := (at_rk h (i := 1) (by omega)).1
    rw [cAt_rAt, cAt_rAt, h0, h1]
    exact (tell_same _ _ (fun r hr => rAt_bd hr) (fun r hr => rAt_bd hr)).symm
end Go.Proofs.YtgmpacndjmmgjaaGreat
end
section
namespace Go.Proofs.YtgmpacndjmmgjaaGreat
open Go.RowKit
set_option linter.unusedVariables false

/-- sizes that the document's disk keeps to -/
structure Rk.Sz (E : Rk) : Prop where
  stay : E.stay.length ≤ 1000000
  left : 0 ≤ E.left ∧ E.left ≤ 9223372036854775807
  len : E.l.length ≤ 1024
theorem Twin.rsz {n : Nat} {D : Dk} {E : Rk} (h : Twin n D E) : E.Sz := by
  refine ⟨by rw [← h.same.stay]; exact h.sz.stay, by rw [← h.same.left]; exact ⟨h.ok.left0, h.sz.left⟩, by rw [h.same.len]; exact h.ok.most⟩
set_option maxRecDepth 100000 in
set_option maxHeartbeats 4000000 in
theorem rFalls (B p q : Nat) (E : Rk) (w : World) (h : IsRk B p q w E) (hz : E.Sz) :
    Calls Tryz.prog 42 #[.pointer (some ⟨p, 0, none⟩)] w fun e w' => e = .returned (.bool E.falls.2) ∧ IsRk B p q w' E.falls.1 ∧ RChg p q w w' := by
  obtain ⟨h1, h2, h3⟩ := hz
  obtain ⟨cap, A3, c3, k0, k1, k2, k3, fp, fq, _, _, z3, z4, z5⟩ := h.cells
  have hst := z3.rd
  have f2 := fp 2
  have HI := Lib.hid h
  have HL := Lib.hid (h.setLeft (E.left - 1))
  have HF := Lib.hid (fun W (hg : IsRk B p q W { E with left := E.left - 1 }) (hr : Rd W A3 E.stay) => rFall B p q { E with left := E.left - 1 } A3 E.stay c3 W hg hr h1 h3)
  have HFe : Hid (Rk.fall { E with left := E.left - 1 } E.stay = E.fall E.stay) := Lib.hid rfl
  have hG : RChg p q w (w.setCell ⟨p, 2, none⟩ (.int .i64 (E.left - 1))) := rs_p (RChg.refl _ _ _) h
  have HS := Lib.hid (hst.ref hG)
  unfold Rk.falls
  by_cases e0 : E.left = 0
  · rw [if_pos e0]
    have hb : (E.left == 0) = true := by rw [beq_iff_eq]; exact e0
    obtain ⟨n, hn⟩ : ∃ n, E.left = n := ⟨_, rfl⟩
    rw [hn] at hb k2
    clear fp fq z3 z4 z5 h hn HL HF HFe HS hG e0 h2 hst
    go_enter Tryz.func42, Tryz.ntmps42
    go_wp2_with fail
    go_ret
    exact ⟨rfl, HI.out, RChg.refl _ _ _⟩
  rw [if_neg e0]
  have hb : (E.left == 0) = false := by rw [beq_eq_false_iff_ne]; exact e0
  have hw : IntKind.i64.wrap (E.left - 1) = E.left - 1 := Go.IntWalk.i64_in _ (by omega)
  have HG := Lib.hid hG
  by_cases e1 : 0 < E.left - 1
  · rw [if_pos e1]
    have hb1 : decide (1 < E.left) = true := by rw [decide_eq_true_eq]; omega
    have hb1' : 1 < E.left := by omega
    obtain ⟨n, hn⟩ : ∃ n, E.left = n := ⟨_, rfl⟩
    simp only [hn] at hb hb1 hb1' k2 hw HL HG ⊢
    clear fp fq z3 z4 z5 h hn HF HFe HS hG e0 e1 h2 hst
    go_enter Tryz.func42, Tryz.ntmps42
    go_wp2_with fail
    go_ret
    exact ⟨rfl, HL.out, HG.out⟩
  · rw [if_neg e1]
    have hb1 : decide (1 < E.left) = false := by rw [decide_eq_false_iff_not]; omega
    have hb1' : E.left ≤ 1 := by omega
    have hb1'' : ¬ 1 < E.left := by omega
    rw [← HFe.out]
    have HFF := Lib.hid (HF.out _ HL.out HS.out)
    obtain ⟨n, hn⟩ : ∃ n, E.left = n := ⟨_, rfl⟩
    simp only [hn] at hb hb1 hb1' hb1'' k2 hw HG HFF ⊢
    clear fp fq z3 z4 z5 h hn HF HFe HS HL hG e0 e1 h2 hst
    go_enter Tryz.func42, Tryz.ntmps42
    go_wp2_with fail
    refine HFF.out.mono ?_
    rintro e w2 ⟨rfl, hI, hg⟩
    have HI2 := Lib.hid hI
    have HG2 := Lib.hid (HG.out.trans_same hg)
    clear hI hg
    go_wp2_with fail
    go_ret
    exact ⟨rfl, HI2.out, HG2.out⟩
set_option maxRecDepth 100000 in
set_option maxHeartbeats 4000000 in
theorem rCrash (B p q : Nat) (E : Rk) (A : Option Addr) (st : List UInt8) (cs : Nat) (w : World) (h : IsRk B p q w E) (hz : E.Sz) (hr : Rd w A st) (hst : st.length ≤ 1000000) :
    Calls Tryz.prog 24 #[.pointer (some ⟨p, 0, none⟩), .slice A st.length cs] w fun e w' => e = .returned (.int .i64 (E.crash st).2) ∧ IsRk B p q w' (E.crash st).1 ∧ RChg p q w w' := by
  obtain ⟨cap, A3, c3, k0, k1, k2, k3, fp, fq, _⟩ := h.cells
  have HI := Lib.hid h
  have HF := Lib.hid (rFall B p q E A st cs w h hr hst hz.len)
  unfold Rk.crash
  obtain ⟨d, hd⟩ : ∃ d, E.down = d := ⟨_, rfl⟩
  rw [hd] at k1 ⊢
  clear fp fq h hr hd
  cases d with
  | true =>
    rw [if_pos rfl]
    go_enter Tryz.func24, Tryz.ntmps24
    go_wp2_with fail
    go_ret
    exact ⟨rfl, HI.out, RChg.refl _ _ _⟩
  | false =>
    rw [if_neg (by simp)]
    go_enter Tryz.func24, Tryz.ntmps24
    go_wp2_with fail
    refine HF.out.mono ?_
    rintro e w2 ⟨rfl, hI, hg⟩
    have HI2 := Lib.hid hI
    have HG2 := Lib.hid hg
    clear hI hg
    go_wp2_with fail
    go_ret
    exact ⟨rfl, HI2.out, HG2.out⟩
set_option maxRecDepth 100000 in
set_option maxHeartbeats 4000000 in
theorem rStart (B p q : Nat) (E : Rk) (w : World) (h : IsRk B p q w E) :
    Calls Tryz.prog 26 #[.pointer (some ⟨p, 0, none⟩)] w fun e w' => e = .returned (.int .i64 E.start.2) ∧ IsRk B p q w' E.start.1 ∧ RChg p q w w' := by
  obtain ⟨cap, A3, c3, k0, k1, k2, k3, fp, fq, _⟩ := h.cells
  have f1 := fp 1
  have HI := Lib.hid h
  have HD := Lib.hid (h.setDown false)
  have HG : Hid (RChg p q w (w.setCell ⟨p, 1, none⟩ (.bool false))) := Lib.hid (rs_p (RChg.refl _ _ _) h)
  unfold Rk.start
  obtain ⟨d, hd⟩ : ∃ d, E.down = d := ⟨_, rfl⟩
  rw [hd] at k1 ⊢
  clear fp fq h hd
  cases d with
  | true =>
    rw [if_pos rfl]
    go_enter Tryz.func26, Tryz.ntmps26
    go_wp2_with fail
    go_ret
    exact ⟨rfl, HD.out, HG.out⟩
  | false =>
    rw [if_neg (by simp)]
    go_enter Tryz.func26, Tryz.ntmps26
    go_wp2_with fail
    go_ret
    exact ⟨rfl, HI.out, RChg.refl _ _ _⟩
set_option maxRecDepth 100000 in
set_option maxHeartbeats 4000000 in
theorem rArm (B p q : Nat) (E : Rk) (n : Int) (A : Option Addr) (st : List UInt8) (cs : Nat) (w : World) (h : IsRk B p q w E) (hr : Rd w A st) (hst : st.length ≤ 1000000) :
    Calls Tryz.prog 28 #[.pointer (some ⟨p, 0, none⟩), .int .i64 n, .slice A st.length cs] w fun e w' => e = .returned (.int .i64 (E.arm n st).2) ∧ IsRk B p q w' (E.arm n st).1 ∧ RChg p q w w' := by
  obtain ⟨cap, A3, c3, k0, k1, k2, k3, fp, fq, _⟩ := h.cells
  have hlt := h.lt.1
  have f2 := fp 2
  have HI := Lib.hid h
  unfold Rk.arm
  by_cases hd : E.down = true
  · rw [if_pos hd]
    rw [hd] at k1
    clear fp fq h hd hr
    go_enter Tryz.func28, Tryz.ntmps28
    go_wp2_with fail
    go_ret
    exact ⟨rfl, HI.out, RChg.refl _ _ _⟩
  · rw [if_neg hd]
    have hd' : E.down = false := by simpa using hd
    rw [hd'] at k1
    by_cases h1 : n < 1
    · rw [if_pos h1]
      have hb : decide (n < 1) = true := decide_eq_true h1
      clear fp fq h hd hd' hr h1
      go_enter Tryz.func28, Tryz.ntmps28
      go_wp2_with fail
      go_ret
      exact ⟨rfl, HI.out, RChg.refl _ _ _⟩
    · rw [if_neg h1]
      have hb : decide (n < 1) = false := decide_eq_false h1
      have hG : RChg p q w (w.setCell ⟨p, 2, none⟩ (.int .i64 n)) := rs_p (RChg.refl _ _ _) h
      have HL := Lib.hid (h.setLeft n)
      have HC := Lib.hid (rCopyN A st cs _ (hr.ref hG) hst)
      have HG := Lib.hid hG
      have hB := h.ge.1
      clear fp fq h hd hd' hr h1 hG
      go_enter Tryz.func28, Tryz.ntmps28
      go_wp2_with fail
      refine HC.out.mono ?_
      rintro e u ⟨A2, c2, rfl, _, g1, g2, g3, g4⟩
      have HI2 := HL.out.non g4
      have HG2 := Lib.hid (HG.out.then_non g4)
      obtain ⟨cap', A4, c4, q0, q1, q2, q3, fp, fq, _⟩ := HI2.cells
      have f3 := fp 3
      have HD := Lib.hid (HI2.setStay A2 st c2 (g3.mono (by have := HG.out.size; have := HI.out.lt.1; have := HI.out.ge.1; omega)) g1 g2)
      have HG3 : Hid (RChg p q w (u.setCell ⟨p, 3, none⟩ (.slice A2 st.length c2))) := Lib.hid (rs_p HG2.out HI2)
      clear g1 g2 g3 g4 HI2 fp fq
      go_wp2_with fail
      go_ret
      exact ⟨rfl, HD.out, HG3.out⟩
set_option maxRecDepth 100000 in
set_option maxHeartbeats 4000000 in
theorem rRead_down (B p q : Nat) (E : Rk) (i : Int) (w : World) (h : IsRk B p q w E) (hd : E.down = true) :
    Calls Tryz.prog 14 #[.pointer (some ⟨p, 0, none⟩), .int .i64 i] w fun e w' => e = .returned (.tuple #[.slice none 0 0, .int .i64 60]) ∧ w = w' := by
  obtain ⟨cap, A3, c3, k0, k1, k2, k3, fp, fq, _⟩ := h.cells
  rw [hd] at k1
  clear fp fq h
  have hnil : ∀ W a n c, (binOp .neq 35 (.slice a n c) (.slice none 0 0)).run Tryz.prog W = .ok (.bool (!a.isNone)) W := nil_neq
  go_enter Tryz.func14, Tryz.ntmps14
  go_wp2_with fail
  go_ret2
  exact ⟨rfl, rfl⟩
set_option maxRecDepth 100000 in
set_option maxHeartbeats 4000000 in
theorem rRead_no (B p q : Nat) (E : Rk) (i : Nat) (w : World) (h : IsRk B p q w E) (hd : E.down = false) (hi : E.l.length ≤ i) (hi2 : i ≤ 1000) :
    Calls Tryz.prog 14 #[.pointer (some ⟨p, 0, none⟩), .int .i64 (i : Int)] w fun e w' => e = .returned (.tuple #[.slice none 0 0, .int .i64 61]) ∧ w = w' := by
  obtain ⟨cap, A3, c3, k0, k1, k2, k3, fp, fq, _⟩ := h.cells
  rw [hd] at k1
  have hb : decide ((i : Int) < 0) = false := by rw [decide_eq_false_iff_not]; omega
  have hb2 : decide ((i : Int) ≥ (E.l.length : Int)) = true := by rw [decide_eq_true_eq]; omega
  clear fp fq h
  have hnil : ∀ W a n c, (binOp .neq 35 (.slice a n c) (.slice none 0 0)).run Tryz.prog W = .ok (.bool (!a.isNone)) W := nil_neq
  go_enter Tryz.func14, Tryz.ntmps14
  go_wp2_with fail
  go_ret2
  exact ⟨rfl, rfl⟩
set_option maxRecDepth 100000 in
set_option maxHeartbeats 4000000 in
theorem rRead_ok (B p q : Nat) (E : Rk) (i : Nat) (f : List UInt8) (c : Option (List UInt8)) (w : World) (h : IsRk B p q w E) (hd : E.down = false) (hi : E.l[i]? = some (f, c)) :
    Calls Tryz.prog 14 #[.pointer (some ⟨p, 0, none⟩), .int .i64 (i : Int)] w fun e w' => ∃ A k, e = .returned (.tuple #[.slice A 64 k, .int .i64 0]) ∧ 64 ≤ k ∧ k ≤ maxLen ∧ (c.getD f).length = 64 ∧ Own w.heap.size w' A (c.getD f) ∧ Chg Non w w' := by
  obtain ⟨cap, A3, c3, k0, k1, k2, k3, fp, fq, z1, _⟩ := h.cells
  obtain ⟨⟨v1, r1, s1⟩, ⟨v2, r2, s2⟩⟩ := h.row hi
  have hil := (List.getElem?_eq_some_iff.1 hi).1
  rw [hd] at k1
  have hb : decide ((i : Int) < 0) = false := by rw [decide_eq_false_iff_not]; omega
  have hb2 : decide ((i : Int) ≥ (E.l.length : Int)) = false := by rw [decide_eq_false_iff_not]; omega
  clear fp fq h hi
  cases c with
  | none =>
    have s2 : v2 = .slice none 0 0 := s2
    subst s2
    obtain ⟨b, o, k, rfl, g1, g2, g3, g4⟩ := s1
    have HC := Lib.hid (rCopy (some ⟨b, o, none⟩) f k w g3.rd (by omega))
    rw [g4] at HC
    have HL : Hid (f.length = 64) := Lib.hid g4
    clear g1 g2 g3 g4
    have hnil : ∀ W a n c, (binOp .neq 35 (.slice a n c) (.slice none 0 0)).run Tryz.prog W = .ok (.bool (!a.isNone)) W := nil_neq
    go_enter Tryz.func14, Tryz.ntmps14
    go_wp2_with fail
    refine HC.out.mono ?_
    rintro e u ⟨A2, c2, rfl, g1, g2, g3, g4⟩
    have HO := Lib.hid g3
    have HG := Lib.hid g4
    have HK := Lib.hid (And.intro g1 g2)
    clear g1 g2 g3 g4
    go_wp2_with fail
    go_ret2
    exact ⟨A2, c2, by rw [← HL.out]; rfl, by rw [← HL.out]; exact HK.out.1, HK.out.2, HL.out, HO.out, HG.out⟩
  | some c =>
    obtain ⟨b, o, k, rfl, g1, g2, g3, g4⟩ := s2
    obtain ⟨b', o', k', rfl, _⟩ := s1
    have HC := Lib.hid (rCopy (some ⟨b, o, none⟩) c k w g3.rd (by omega))
    rw [g4] at HC
    have HL : Hid (c.length = 64) := Lib.hid g4
    clear g1 g2 g3 g4
    have hnil : ∀ W a n c, (binOp .neq 35 (.slice a n c) (.slice none 0 0)).run Tryz.prog W = .ok (.bool (!a.isNone)) W := nil_neq
    go_enter Tryz.func14, Tryz.ntmps14
    go_wp2_with fail
    refine HC.out.mono ?_
    rintro e u ⟨A2, c2, rfl, g1, g2, g3, g4⟩
    have HO := Lib.hid g3
    have HG := Lib.hid g4
    have HK := Lib.hid (And.intro g1 g2)
    clear g1 g2 g3 g4
    go_wp2_with fail
    go_ret2
    exact ⟨A2, c2, by rw [← HL.out]; rfl, by rw [← HL.out]; exact HK.out.1, HK.out.2, HL.out, HO.out, HG.out⟩
set_option maxRecDepth 100000 in
set_option maxHeartbeats 4000000 in
theorem rWrite (B p q : Nat) (E : Rk) (i : Int) (A : Option Addr) (b : List UInt8) (cb : Nat) (w : World) (h : IsRk B p q w E) (hz : E.Sz) (hr : Rd w A b) (hb : b.length ≤ 1000000) :
    Calls Tryz.prog 20 #[.pointer (some ⟨p, 0, none⟩), .int .i64 i, .slice A b.length cb] w fun e w' => e = .returned (.int .i64 (E.write i b).2) ∧ IsRk B p q w' (E.write i b).1 ∧ RChg p q w w' := by
  obtain ⟨cap, A3, c3, k0, k1, k2, k3, fp, fq, z1, _⟩ := h.cells
  have HI := Lib.hid h
  have HF := Lib.hid (rFalls B p q E w h hz)
  have hlenF := rlen_falls E
  have hlen := hz.len
  have HS := Lib.hid (fun W (hg : RChg p q w W) => hr.ref hg)
  unfold Rk.write
  obtain ⟨d, hd⟩ : ∃ d, E.down = d := ⟨_, rfl⟩
  rw [hd] at k1 ⊢
  clear fp fq h hd hr hz
  cases d with
  | true =>
    rw [if_pos rfl]
    go_enter Tryz.func20, Tryz.ntmps20
    go_wp2_with fail
    go_ret
    exact ⟨rfl, HI.out, RChg.refl _ _ _⟩
  | false =>
    rw [if_neg (by simp)]
    by_cases hin : 0 ≤ i ∧ i < E.l.length
    case neg =>
      rw [if_pos hin]
      by_cases h0 : i < 0
      · have hb0 : decide (i < 0) = true := by rw [decide_eq_true_eq]; exact h0
        clear hin h0
        go_enter Tryz.func20, Tryz.ntmps20
        go_wp2_with fail
        go_ret
        exact ⟨rfl, HI.out, RChg.refl _ _ _⟩
      · have hb0 : decide (i < 0) = false := by rw [decide_eq_false_iff_not]; exact h0
        have hb1 : decide (i ≥ (E.l.length : Int)) = true := by rw [decide_eq_true_eq]; omega
        clear hin h0
        go_enter Tryz.func20, Tryz.ntmps20
        go_wp2_with fail
        go_ret
        exact ⟨rfl, HI.out, RChg.refl _ _ _⟩
    case pos =>
      rw [if_neg (fun x => x hin)]
      obtain ⟨k, rfl⟩ : ∃ k : Nat, i = k := ⟨i.toNat, by omega⟩
      have hk : k < E.l.length := by omega
      have hb0 : decide ((k : Int) < 0) = false := by rw [decide_eq_false_iff_not]; omega
      have hb1 : decide ((k : Int) ≥ (E.l.length : Int)) = false := by rw [decide_eq_false_iff_not]; omega
      clear hin
      by_cases h64 : b.length = 64
      case neg =>
        rw [if_pos h64]
        have hb2 : ((b.length : Int) != 64) = true := by rw [bne_iff_ne]; omega
        clear h64
        go_enter Tryz.func20, Tryz.ntmps20
        go_wp2_with fail
        go_ret
        exact ⟨rfl, HI.out, RChg.refl _ _ _⟩
      case pos =>
        rw [if_neg (fun x => x h64)]
        have hb2 : ((b.length : Int) != 64) = false := by rw [bne_eq_false_iff_eq]; omega
        have H64 := Lib.hid h64
        obtain ⟨⟨E1, fl⟩, hE1⟩ : ∃ x, E.falls = x := ⟨_, rfl⟩
        rw [hE1] at HF hlenF ⊢
        simp only at HF hlenF ⊢
        clear h64 hE1
        cases fl with
        | true =>
          rw [if_pos rfl]
          go_enter Tryz.func20, Tryz.ntmps20
          go_wp2_with fail
          refine HF.out.mono ?_
          rintro e w2 ⟨rfl, hI, hg⟩
          have HI2 := Lib.hid hI
          have HG2 := Lib.hid hg
          clear hI hg
          go_wp2_with fail
          go_ret
          exact ⟨rfl, HI2.out, HG2.out⟩
        | false =>
          rw [if_neg (by simp)]
          go_enter Tryz.func20, Tryz.ntmps20
          go_wp2_with fail
          refine HF.out.mono ?_
          rintro e u ⟨rfl, hI, hg⟩
          clear k0 k1 k2 k3 z1
          obtain ⟨cap, A3, c3, k0, k1, k2, k3, fp, fq, z1, _⟩ := hI.cells
          have f9 := fq (k * 2 + 1)
          obtain ⟨⟨f, c⟩, hf⟩ : ∃ x, E1.l[k]? = some x := ⟨_, List.getElem?_eq_getElem (by omega)⟩
          obtain ⟨⟨v1, r1, s1⟩, ⟨v2, r2, s2⟩⟩ := hI.row hf
          have hne := hI.ne
          have HI2 := Lib.hid hI
          have HG2 := Lib.hid hg
          have HFc := Lib.hid hf
          have HRb := Lib.hid (HS.out u hg)
          have hk1 : k < E1.l.length := by omega
          clear hI hg fp fq hf s1 s2 HF HS HI
          go_wp2_with fail
          refine wp_region_held_drew (S := fun W => Chg (fun x => x = q) u W) (by kernel_rfl) ((Chg.refl _ _).drew) (fun hHeld => ?_)
          clear hHeld
          refine h_pure 0 (some 31) (.pointer (some ⟨p, 0, none⟩)) rfl (by kernel_rfl) (by kernel_rfl) (by kernel_rfl) (by kernel_rfl) (fun _ _ _ h => h) (by kernel_rfl) (fun W hW => by go_simp) ((Chg.refl _ _).drew) ?_
          simp only [Act.put, List.setIfInBounds_toArray, List.set_cons_zero, List.set_cons_succ]
          refine h_pure 1 (some 32) (.pointer (some ⟨p, 0, none⟩)) rfl (by kernel_rfl) (by kernel_rfl) (by kernel_rfl) (by kernel_rfl) (fun _ _ _ h => h) (by kernel_rfl) (fun W hW => by go_simp) ((Chg.refl _ _).drew) ?_
          simp only [Act.put, List.setIfInBounds_toArray, List.set_cons_zero, List.set_cons_succ]
          refine h_pure 2 (some 33) (.pointer (some ⟨p, 0, none⟩)) rfl (by kernel_rfl) (by kernel_rfl) (by kernel_rfl) (by kernel_rfl) (fun _ _ _ h => h) (by kernel_rfl) (fun W hW => by go_simp) ((Chg.refl _ _).drew) ?_
          simp only [Act.put, List.setIfInBounds_toArray, List.set_cons_zero, List.set_cons_succ]
          refine h_pure 3 (some 34) (.slice (some ⟨q, 0, none⟩) E1.l.length cap) rfl (by kernel_rfl) (by kernel_rfl) (by kernel_rfl) (by kernel_rfl) (fun _ _ _ h => h) (by kernel_rfl) (fun W hW => by have hq := hW.cell_some k0 (fun e => hne e); go_simp) ((Chg.refl _ _).drew) ?_
          simp only [Act.put, List.setIfInBounds_toArray, List.set_cons_zero, List.set_cons_succ]
          refine h_pure 4 (some 35) (.int .i64 k) rfl (by kernel_rfl) (by kernel_rfl) (by kernel_rfl) (by kernel_rfl) (fun _ _ _ h => h) (by kernel_rfl) (fun W hW => by go_simp) ((Chg.refl _ _).drew) ?_
          simp only [Act.put, List.setIfInBounds_toArray, List.set_cons_zero, List.set_cons_succ]
          refine h_pure 5 (some 36) (.slice A b.length cb) rfl (by kernel_rfl) (by kernel_rfl) (by kernel_rfl) (by kernel_rfl) (fun _ _ _ h => h) (by kernel_rfl) (fun W hW => by go_simp) ((Chg.refl _ _).drew) ?_
          simp only [Act.put, List.setIfInBounds_toArray, List.set_cons_zero, List.set_cons_succ]
          refine h_one 6 (by kernel_rfl) rfl (by kernel_rfl) ?_
          intro K hK
          go_simp
          go_at_call 36
          refine (rCopy A b cb u.drew (HRb.out.non (Chg.refl _ _).drew) hb).mono ?_
          rintro e u3 ⟨A2, c2, rfl, g1, g2, g3, g4⟩
          have HU : Hid (Chg Non u u3) := Lib.hid (((Chg.refl Non _).drew).then_non g4)
          obtain ⟨b2, o2, rfl, _⟩ := g3.rd.at_ (by rw [H64.out]; omega)
          have HSV : Hid (SecV B u3 (.slice (some ⟨b2, o2, none⟩) b.length c2) b) := Lib.hid ⟨b2, o2, c2, by rw [H64.out], by rw [← H64.out]; exact g1, g2, g3.mono (by show B ≤ u.heap.size; have := HI2.out.ge.1; have := HI2.out.lt.1; omega), H64.out⟩
          clear g1 g2 g3 g4
          refine hK.out _ _ HU.out.of_non (fun _ => ?_)
          clear hK K
          refine h_pure 7 (some 38) (.pointer (some ⟨q, k * 2, none⟩)) rfl (by kernel_rfl) (by kernel_rfl) (by kernel_rfl) (by kernel_rfl) (fun _ _ _ h => h) (by kernel_rfl) (fun W hW => by go_simp) HU.out.of_non ?_
          simp only [Act.put, List.setIfInBounds_toArray, List.set_cons_zero, List.set_cons_succ]
          refine h_pure 8 (some 39) (.pointer (some ⟨q, k * 2 + 1, none⟩)) rfl (by kernel_rfl) (by kernel_rfl) (by kernel_rfl) (by kernel_rfl) (fun _ _ _ h => h) (by kernel_rfl) (fun W hW => by go_simp) HU.out.of_non ?_
          simp only [Act.put, List.setIfInBounds_toArray, List.set_cons_zero, List.set_cons_succ]
          have HI3 := Lib.hid ((HI2.out.non HU.out).setCa k f (some b) c HFc.out _ HSV.out)
          have HG3 : Hid (RChg p q w (u3.setCell ⟨q, k * 2 + 1, none⟩ (.slice (some ⟨b2, o2, none⟩) b.length c2))) := Lib.hid (rs_q (HG2.out.then_non HU.out) (HI2.out.non HU.out) (by omega))
          have r2' := HU.out.cell_some r2 (fun e => e)
          have f9' := (HU.out.frozen (lt_of_cell r2) (fun e => e)).trans f9
          refine h_one 9 (by kernel_rfl) rfl (by kernel_rfl) ?_
          intro K hK
          go_simp
          refine hK.out _ _ (Chg.setCell (S := fun x => x = q) HU.out.of_non (p := ⟨q, k * 2 + 1, none⟩) (.inl rfl) _) (fun _ => ?_)
          clear hK K
          refine wpAnyH_done (by kernel_rfl) ?_ _
          go_wp2_with fail
          go_ret
          have hgd : E1.l.getD k ([], none) = (f, c) := by rw [List.getD_eq_getElem?_getD, HFc.out]; rfl
          simp only [Int.toNat_natCast, hgd]
          exact ⟨rfl, HI3.out, HG3.out⟩
set_option maxRecDepth 100000 in
set_option maxHeartbeats 4000000 in
theorem rFlush (B p q : Nat) (E : Rk) (w : World) (h : IsRk B p q w E) (hz : E.Sz) :
    Calls Tryz.prog 22 #[.pointer (some ⟨p, 0, none⟩)] w fun e w' => e = .returned (.int .i64 E.flush.2) ∧ IsRk B p q w' E.flush.1 ∧ RChg p q w w' := by
  obtain ⟨cap, A3, c3, k0, k1, k2, k3, fp, fq, z1, _⟩ := h.cells
  have HI := Lib.hid h
  have HF := Lib.hid (rFalls B p q E w h hz)
  have hlenF := rlen_falls E
  have hlen := hz.len
  unfold Rk.flush
  obtain ⟨d, hd⟩ : ∃ d, E.down = d := ⟨_, rfl⟩
  rw [hd] at k1 ⊢
  clear fp fq h hd hz
  cases d with
  | true =>
    rw [if_pos rfl]
    go_enter Tryz.func22, Tryz.ntmps22
    go_wp2_with fail
    go_ret
    exact ⟨rfl, HI.out, RChg.refl _ _ _⟩
  | false =>
    rw [if_neg (by simp)]
    obtain ⟨⟨E1, fl⟩, hE1⟩ : ∃ x, E.falls = x := ⟨_, rfl⟩
    rw [hE1] at HF hlenF ⊢
    simp only at HF hlenF ⊢
    clear hE1
    cases fl with
    | true =>
      rw [if_pos rfl]
      go_enter Tryz.func22, Tryz.ntmps22
      go_wp2_with fail
      refine HF.out.mono ?_
      rintro e w2 ⟨rfl, hI, hg⟩
      have HI2 := Lib.hid hI
      have HG2 := Lib.hid hg
      clear hI hg
      go_wp2_with fail
      go_ret
      exact ⟨rfl, HI2.out, HG2.out⟩
    | false =>
      rw [if_neg (by simp)]
      have FA := fun k f c (h : E1.l[k]? = some (f, c)) => flush_at h
      have hXl := flushL_len E1.l
      obtain ⟨X, hX⟩ : ∃ X, Rk.flushL E1.l = X := ⟨_, rfl⟩
      rw [hX] at hXl ⊢
      simp only [hX] at FA
      have HFA := Lib.hid FA
      have HXL := Lib.hid hXl
      clear FA hX hXl
      have hnil : ∀ W a n c, (binOp .neq 35 (.slice a n c) (.slice none 0 0)).run Tryz.prog W = .ok (.bool (!a.isNone)) W := nil_neq
      go_enter Tryz.func22, Tryz.ntmps22
      go_wp2_with fail
      refine HF.out.mono ?_
      rintro e u ⟨rfl, hI, hg⟩
      have HI2 := Lib.hid hI
      have HG2 := Lib.hid hg
      clear hI hg k0 k1 k2 k3 z1 HF HI
      go_wp2_with fail
      go_loopw [3] (fun iv wr => ∃ k : Nat, k ≤ E1.l.length ∧ iv = .int .i64 k ∧ IsRk B p q wr { E1 with l := mid X E1.l k } ∧ RChg p q w wr) (fun iv _ => E1.l.length - (intOf iv).toNat)
      case atStart => exact ⟨0, by omega, rfl, by rw [mid_zero]; exact HI2.out, HG2.out⟩
      case round =>
        obtain ⟨k, hk, rfl, hI, hC⟩ := hrel
        have hlen := mid_len HXL.out k
        have hne := hI.ne
        obtain ⟨cap, A3, c3, k0, k1, k2, k3, fp, fq, z1, z2, z3, z4, z5⟩ := hI.cells
        simp only [hlen] at k0 z1
        have HI := Lib.hid hI
        have HC := Lib.hid hC
        by_cases hlt : k < E1.l.length
        · have hltd : decide ((k : Int) < (E1.l.length : Int)) = true := by simpa using hlt
          obtain ⟨⟨f, c0⟩, hf⟩ : ∃ x, E1.l[k]? = some x := ⟨_, List.getElem?_eq_getElem hlt⟩
          have hfm : (mid X E1.l k)[k]? = some (f, c0) := by rw [mid_at HXL.out]; exact hf
          obtain ⟨⟨v1, r1, s1⟩, ⟨v2, r2, s2⟩⟩ := hI.row hfm
          have HF := Lib.hid hf
          have HFM := Lib.hid hfm
          have f8 := fq (k * 2)
          have f9 := fq (k * 2 + 1)
          clear hI hC z2 z3 z4 z5 hf hfm hlen s1 fp fq
          cases c0 with
          | none =>
            have s2 : v2 = .slice none 0 0 := s2
            subst s2
            go_wp2_with fail
            case roundEnd =>
              refine ⟨⟨k + 1, by omega, by simp, ?_, HC.out⟩, by simp [intOf]; omega⟩
              rw [mid_same HXL.out (HFA.out k f none HF.out) HF.out]
              exact HI.out
          | some c =>
            obtain ⟨b, o, kk, rfl, g1, g2, g3, g4⟩ := s2
            have HSV : Hid (SecV B wr (.slice (some ⟨b, o, none⟩) 64 kk) c) := Lib.hid ⟨b, o, kk, rfl, g1, g2, g3, g4⟩
            clear g1 g2 g3 g4
            have hk2 : k * 2 + 1 < (mid X E1.l k).length * 2 := by rw [mid_len HXL.out]; omega
            have HXk := Lib.hid (HFA.out k f (some c) HF.out)
            go_wp2_with fail
            refine wp_region_still_tail 14 (by kernel_rfl) (by kernel_rfl) ?_
            simp only [List.take_succ_cons, List.take_zero, List.drop_succ_cons, List.drop_zero]
            change wpStill _ _ wr.drew (fun a' => wpList _ _ _ _ a' wr.drew) _ _
            have hgd : Chg Non wr wr.drew := (Chg.refl _ _).drew
            have HI4 := Lib.hid (HI.out.non hgd)
            have HC4 := Lib.hid (HC.out.then_non hgd)
            have HSV4 := Lib.hid (HSV.out.keep hgd (fun _ e => e.elim))
            have k0 := hgd.cell_some k0 (fun e => e)
            have f8 := (hgd.frozen (lt_of_cell r1) (fun e => e)).trans f8
            have f9 := (hgd.frozen (lt_of_cell r2) (fun e => e)).trans f9
            have r1 := hgd.cell_some r1 (fun e => e)
            have r2 := hgd.cell_some r2 (fun e => e)
            clear k1 k2 k3
            generalize wr.drew = w2 at *
            iterate 14 still_step
            refine wpStill_nil ?_
            have HC5 := Lib.hid (rs_q (p := p) (q := q) (j := k * 2) (v := .slice (some ⟨b, o, none⟩) 64 kk) HC4.out HI4.out (by show k * 2 < (mid X E1.l k).length * 2; omega))
            have HI5 := Lib.hid (HI4.out.setFl k c f (some c) HFM.out _ HSV4.out)
            have HI6 := Lib.hid (HI5.out.setCa k c none (some c) (by show ((mid X E1.l k).set k (c, some c))[k]? = _; rw [List.getElem?_set_self (by rw [mid_len HXL.out]; exact hlt)]) (.slice none 0 0) rfl)
            have HC6 := Lib.hid (rs_q (p := p) (q := q) (j := k * 2 + 1) (v := .slice none 0 0) HC5.out HI5.out (by show k * 2 + 1 < ((mid X E1.l k).set k (c, some c)).length * 2; rw [List.length_set]; exact hk2))
            go_wp2_with fail
            case roundEnd =>
              refine ⟨⟨k + 1, by omega, by simp, ?_, HC6.out⟩, by simp [intOf]; omega⟩
              have h := HI6.out
              have h2 : (mid X E1.l k).set k (c, none) = mid X E1.l (k + 1) := (mid_step HXL.out HXk.out).symm
              simp only [List.set_set, h2] at h
              exact h
        · obtain rfl : k = E1.l.length := by omega
          have hltd : decide ((E1.l.length : Int) < (E1.l.length : Int)) = false := by simp
          have HI3 : Hid (IsRk B p q wr { E1 with l := X }) := Lib.hid (by have := HI.out; rwa [mid_all HXL.out] at this)
          clear fp fq hI hC z2 z3 z4 z5 hlen
          go_wp2_with fail
          go_ret
          exact ⟨rfl, HI3.out, HC.out⟩
end Go.Proofs.YtgmpacndjmmgjaaGreat
end
section
namespace Go.Proofs.YtgmpacndjmmgjaaGreat
open Go.RowKit
set_option linter.unusedVariables false

theorem rsz_fall {E : Rk} (h : E.Sz) (st : List UInt8) : (E.fall st).Sz := ⟨by simp [Rk.fall], by simp [Rk.fall], by show (Rk.fallL st 0 E.l).length ≤ 1024; rw [fallL_len]; exact h.len⟩
theorem rsz_falls {E : Rk} (h : E.Sz) : E.falls.1.Sz := by
  unfold Rk.falls
  split
  · exact h
  · split
    · exact ⟨h.stay, by have := h.left; show 0 ≤ E.left - 1 ∧ E.left - 1 ≤ _; omega, h.len⟩
    · exact rsz_fall h _
theorem rsz_write {E : Rk} (h : E.Sz) (i : Int) (b : List UInt8) : (E.write i b).1.Sz := by
  have hf := rsz_falls h
  unfold Rk.write
  repeat' split
  all_goals first
    | exact h
    | exact hf
    | exact ⟨hf.stay, hf.left, by simp only [List.length_set]; exact hf.len⟩
set_option maxRecDepth 100000 in
set_option maxHeartbeats 4000000 in
theorem rCPut (B p q : Nat) (E : Rk) (r : Rec) (w : World) (h : IsRk B p q w E) (hz : E.Sz) (hh : r.hash.length = 32) (hs2 : r.seqn ≤ 9223372036854775807) :
    Calls Tryz.prog 18 #[.pointer (some ⟨p, 0, none⟩), .agg (recA r)] w fun e w' => e = .returned (.int .i64 (rPutV E r).2) ∧ IsRk B p q w' (rPutV E r).1 ∧ RChg p q w w' := by
  have HI := Lib.hid h
  have HXS := Lib.hid (recA_size r hh)
  have HX0 := Lib.hid (recA_0 r)
  have HM := Lib.hid (rMay r)
  have HSe := Lib.hid (fun W => rSector r W hh)
  have hfl : (recFormU r).length ≤ 58 := by simp [recFormU, be_length, hh]
  have HSL := Lib.hid (sealL_len 1 (recFormU r) hfl)
  have HW := Lib.hid (fun A c W h hr => rWrite B p q E (r.seqn % 2) A (sealL 1 (recFormU r)) c W h hz hr (by rw [HSL.out]; omega))
  have HFl := Lib.hid (fun W h => rFlush B p q (E.write (r.seqn % 2) (sealL 1 (recFormU r))).1 W h (rsz_write hz _ _))
  have hlt := h.lt
  unfold rPutV
  cases hm : r.may with
  | false =>
    rw [if_pos rfl]
    rw [hm] at HM
    obtain ⟨X, hX⟩ : ∃ X, recA r = X := ⟨_, rfl⟩
    rw [hX] at HXS HX0 HM ⊢
    clear hX HSe HW HFl hm h hz
    go_enter Tryz.func18, Tryz.ntmps18
    go_wp2_with
      (refine sel (some 6) (.load 34 (.tmp 3)) ?_
       refine wpList_load_rec rfl (.tmp 3) rfl w.heap.size 0 rfl X (range_block (heap_alloc_new _ _)) HXS.out ?_)
    refine (HM.out _).mono ?_
    rintro e w2 ⟨rfl, hg⟩
    have HG := Lib.hid (((Chg.refl Non w).alloc (.cells X 34)).then_non hg)
    clear hg
    go_wp2_with fail
    go_ret
    exact ⟨rfl, HI.out.non HG.out, RChg.of_non HG.out⟩
  | true =>
    rw [if_neg (by simp)]
    rw [hm] at HM
    have hseq : 1 ≤ r.seqn := (may_true hm).1
    obtain ⟨sq, hsq⟩ : ∃ sq, r.seqn = sq := ⟨_, rfl⟩
    simp only [hsq] at HX0 HW HFl hseq hs2 ⊢
    have htm : sq.tmod 2 = sq % 2 := Int.tmod_eq_emod_of_nonneg (by omega)
    have hwr : IntKind.i64.wrap (sq % 2) = sq % 2 := Go.IntWalk.i64_in _ (by omega)
    obtain ⟨SL, hSL⟩ : ∃ SL, sealL 1 (recFormU r) = SL := ⟨_, rfl⟩
    simp only [hSL] at HSe HSL HW HFl ⊢
    obtain ⟨⟨E1, e1⟩, hE1⟩ : ∃ x, E.write (sq % 2) SL = x := ⟨_, rfl⟩
    simp only [hE1] at HW HFl ⊢
    obtain ⟨F, hF⟩ : ∃ F, (if e1 ≠ 0 then (E1, e1) else E1.flush) = F := ⟨_, rfl⟩
    have HF0 : Hid (e1 = 0 → F = E1.flush) := Lib.hid (fun e => by rw [← hF, if_neg (by simp [e])])
    have HF1 : Hid (e1 ≠ 0 → F = (E1, e1)) := Lib.hid (fun e => by rw [← hF, if_pos e])
    rw [hF]
    clear hF
    obtain ⟨X, hX⟩ : ∃ X, recA r = X := ⟨_, rfl⟩
    rw [hX] at HXS HX0 HM ⊢
    simp only [hX] at HSe
    clear hX hm h hz hSL hE1 hsq hfl
    go_enter Tryz.func18, Tryz.ntmps18
    go_wp2_with
      (refine sel (some 6) (.load 34 (.tmp 3)) ?_
       refine wpList_load_rec rfl (.tmp 3) rfl w.heap.size 0 rfl X (range_block (heap_alloc_new _ _)) HXS.out ?_)
    refine (HM.out _).mono ?_
    rintro e w2 ⟨rfl, hg⟩
    have HG := Lib.hid (((Chg.refl Non w).alloc (.cells X 34)).then_non hg)
    have HB := Lib.hid (r5_blk hg (heap_alloc_new w (.cells X 34)))
    have k0 : w2.cell? ⟨w.heap.size, 0, none⟩ = some (.int .i64 sq) := by rw [cell_of_row _ _ _ _ _ _ HB.out]; exact HX0.out
    have hnp : w.heap.size ≠ p ∧ w.heap.size ≠ q := by omega
    have hnr : ¬ RS p q w.heap.size := fun e => by rcases e with e | e; exact hnp.1 e; exact hnp.2 e
    clear hg
    go_wp2_with fail
    refine wp_region_held_drew (S := fun W => Chg (RS p q) w2 W) (by kernel_rfl) ((Chg.refl _ _).drew) (fun hHeld => ?_)
    clear hHeld
    refine h_pure 0 (some 9) (.pointer (some ⟨p, 0, none⟩)) rfl (by kernel_rfl) (by kernel_rfl) (by kernel_rfl) (by kernel_rfl) (fun _ _ _ h => h) (by kernel_rfl) (fun W hW => by go_simp) ((Chg.refl _ _).drew) ?_
    simp only [Act.put, List.setIfInBounds_toArray, List.set_cons_zero, List.set_cons_succ]
    refine h_pure 1 (some 10) (.pointer (some ⟨w.heap.size, 0, none⟩)) rfl (by kernel_rfl) (by kernel_rfl) (by kernel_rfl) (by kernel_rfl) (fun _ _ _ h => h) (by kernel_rfl) (fun W hW => by go_simp) ((Chg.refl _ _).drew) ?_
    simp only [Act.put, List.setIfInBounds_toArray, List.set_cons_zero, List.set_cons_succ]
    refine h_pure 2 (some 11) (.int .i64 sq) rfl (by kernel_rfl) (by kernel_rfl) (by kernel_rfl) (by kernel_rfl) (fun _ _ _ h => h) (by kernel_rfl) (fun W hW => by have hq := hW.cell_some k0 hnr; go_simp) ((Chg.refl _ _).drew) ?_
    simp only [Act.put, List.setIfInBounds_toArray, List.set_cons_zero, List.set_cons_succ]
    refine h_pure 3 (some 12) (.int .i64 (sq % 2)) rfl (by kernel_rfl) (by kernel_rfl) (by kernel_rfl) (by kernel_rfl) (fun _ _ _ h => h) (by kernel_rfl) (fun W hW => by go_simp) ((Chg.refl _ _).drew) ?_
    simp only [Act.put, List.setIfInBounds_toArray, List.set_cons_zero, List.set_cons_succ]
    refine h_load 4 (some 13) 34 (.tmp 3) w.heap.size 0 X _ rfl (by kernel_rfl) (by kernel_rfl) (by kernel_rfl) (by kernel_rfl) (by kernel_rfl) (fun _ _ _ h => h) (by kernel_rfl) (by kernel_rfl) (fun w h => range_keep h (range_block HB.out) hnr) Tryz.underlying34 rfl (by rw [HXS.out]; exact info_rec) ((Chg.refl _ _).drew) ?_
    simp only [Act.put, List.setIfInBounds_toArray, List.set_cons_zero, List.set_cons_succ]
    refine h_one 5 (by kernel_rfl) rfl (by kernel_rfl) ?_
    intro K hK
    go_simp
    go_at_call 29
    refine (HSe.out _).mono ?_
    rintro e u ⟨A2, c2, rfl, g1, g2, g3, g4⟩
    have HU : Hid (Chg Non w2 u) := Lib.hid (((Chg.refl Non _).drew).then_non g4)
    have HRd := Lib.hid g3.rd
    clear g1 g2 g3 g4
    refine hK.out _ _ HU.out.of_non (fun _ => ?_)
    clear hK K
    refine h_one 6 (by kernel_rfl) rfl (by kernel_rfl) ?_
    intro K hK
    go_simp
    go_at_call 20
    refine (HW.out A2 c2 u (HI.out.non (HG.out.then_non HU.out)) HRd.out).mono ?_
    rintro e u2 ⟨rfl, hI, hg⟩
    have HI2 := Lib.hid hI
    have HG2 : Hid (Chg (RS p q) w2 u2) := Lib.hid (HU.out.non_then hg.chg)
    have HG3 : Hid (RChg p q w u2) := Lib.hid (RChg.non_then (HG.out.then_non HU.out) hg)
    clear hI hg
    refine hK.out _ _ HG2.out (fun _ => ?_)
    clear hK K
    refine h_pure 7 (some 5) (.int .i64 e1) rfl (by kernel_rfl) (by kernel_rfl) (by kernel_rfl) (by kernel_rfl) (fun _ _ _ h => h) (by kernel_rfl) (fun W hW => by go_simp) HG2.out ?_
    simp only [Act.put, List.setIfInBounds_toArray, List.set_cons_zero, List.set_cons_succ]
    refine wpAnyH_done (by kernel_rfl) ?_ _
    by_cases h0 : e1 = 0
    · have HFF := Lib.hid (HF0.out h0)
      subst h0
      go_wp2_with fail
      refine (HFl.out u2 HI2.out).mono ?_
      rintro e u3 ⟨rfl, hI, hg⟩
      have HI3 := Lib.hid hI
      have HG4 := Lib.hid (HG3.out.trans_same hg)
      clear hI hg
      go_wp2_with fail
      go_ret
      rw [HFF.out]
      exact ⟨rfl, HI3.out, HG4.out⟩
    · have hb : (e1 != 0) = true := by rw [bne_iff_ne]; exact h0
      have HFF := Lib.hid (HF1.out h0)
      clear h0
      go_wp2_with fail
      go_ret
      rw [HFF.out]
      exact ⟨rfl, HI2.out, HG3.out⟩
end Go.Proofs.YtgmpacndjmmgjaaGreat
end
section
namespace Go.Proofs.YtgmpacndjmmgjaaGreat
open Go.RowKit
set_option linter.unusedVariables false

set_option maxRecDepth 100000 in
set_option maxHeartbeats 2000000 in
theorem rRByte (B : Nat → Prop) (p : Nat) (l rest : List UInt8) (er : Int) (w : World) (h : RdSt B p w l rest er) (hl : l.length ≤ 65536) :
    Calls Tryz.prog 62 #[.pointer (some ⟨p, 0, none⟩)] w fun e w' => e = .returned (.int .u8 ((rdByte rest er).1.toNat : Nat)) ∧ RdSt B p w' l (rdByte rest er).2.1 (rdByte rest er).2.2 ∧ Chg (fun x => x = p) w w' := by
  obtain ⟨k, hI, hs⟩ := h
  by_cases he : er = 0
  · subst he
    obtain ⟨hd, hk⟩ := hs rfl
    have hrl : rest.length = l.length - k := by rw [← hd, List.length_drop]
    cases rest with
    | cons x r =>
      rw [show rdByte (x :: r) 0 = (x, r, 0) from rfl]
      simp only [List.length_cons] at hrl
      have HN := Lib.hid (rNumb_ok B p 1 l k w hI (by omega) (by omega) (by omega) hl)
      rw [hd, show (x :: r).take 1 = [x] from rfl, show num [x] = x.toNat by simp [num]] at HN
      have hdd : l.drop (k + 1) = r := by rw [← List.drop_drop, hd]; rfl
      have hx8 := x.toNat_lt
      clear hI hs
      have hw8 : IntKind.u8.wrap (x.toNat : Int) = (x.toNat : Int) := by rw [IntKind.wrap_u8']; omega
      go_enter Tryz.func62, Tryz.ntmps62
      go_wp2_with fail
      refine HN.out.mono ?_
      rintro e w1 ⟨rfl, h1, h2⟩
      have HI := Lib.hid h1
      have HG := Lib.hid h2
      clear h1 h2
      go_wp2_with fail
      go_ret
      exact ⟨rfl, ⟨k + 1, HI.out, fun _ => ⟨hdd, by omega⟩⟩, HG.out⟩
    | nil =>
      rw [show rdByte [] 0 = (0, [], 50) from rfl]
      have hz : (((0 : UInt8).toNat : Nat) : Int) = 0 := by simp
      simp only [hz]
      simp only [List.length_nil] at hrl
      have HN := Lib.hid (rNumb_short B p 1 l k w hI hk (by omega) (by omega) hl)
      clear hI hs hrl hd hz
      go_enter Tryz.func62, Tryz.ntmps62
      go_wp2_with fail
      refine HN.out.mono ?_
      rintro e w1 ⟨rfl, h1, h2⟩
      have HI := Lib.hid h1
      have HG := Lib.hid h2
      clear h1 h2
      go_wp2_with fail
      go_ret
      exact ⟨rfl, ⟨k, HI.out, fun e => by simp at e⟩, HG.out⟩
  · rw [show rdByte rest er = (0, rest, er) by unfold rdByte; rw [if_neg he]]
    have hz : (((0 : UInt8).toNat : Nat) : Int) = 0 := by simp
    simp only [hz]
    have HN := Lib.hid (rNumb_broken B p 1 l k er he w hI hl)
    have HI := Lib.hid hI
    have HSt := Lib.hid hs
    clear hI hs
    go_enter Tryz.func62, Tryz.ntmps62
    go_wp2_with fail
    refine HN.out.mono ?_
    rintro e w1 ⟨rfl, rfl⟩
    go_wp2_with fail
    go_ret
    exact ⟨rfl, ⟨k, HI.out, HSt.out⟩, Chg.refl _ _⟩
set_option maxRecDepth 100000 in
set_option maxHeartbeats 2000000 in
theorem rRFlag (B : Nat → Prop) (p : Nat) (l rest : List UInt8) (er : Int) (w : World) (h : RdSt B p w l rest er) (hl : l.length ≤ 65536) :
    Calls Tryz.prog 63 #[.pointer (some ⟨p, 0, none⟩)] w fun e w' => e = .returned (.bool (rdFlag rest er).1) ∧ RdSt B p w' l (rdFlag rest er).2.1 (rdFlag rest er).2.2 ∧ Chg (fun x => x = p) w w' := by
  obtain ⟨k, hI, hs⟩ := h
  by_cases he : er = 0
  · subst he
    obtain ⟨hd, hk⟩ := hs rfl
    have hrl : rest.length = l.length - k := by rw [← hd, List.length_drop]
    cases rest with
    | cons x r =>
      simp only [List.length_cons] at hrl
      have HN := Lib.hid (rNumb_ok B p 1 l k w hI (by omega) (by omega) (by omega) hl)
      rw [hd, show (x :: r).take 1 = [x] from rfl, show num [x] = x.toNat by simp [num]] at HN
      have hdd : l.drop (k + 1) = r := by rw [← List.drop_drop, hd]; rfl
      have hx8 := x.toNat_lt
      clear hI hs
      by_cases h1 : x ≤ 1
      · rw [show rdFlag (x :: r) 0 = (decide (x = 1), r, 0) by unfold rdFlag; simp only [if_true, h1]]
        have hx1 : x.toNat ≤ 1 := h1
        have b1 : decide ((x.toNat : Int) > 1) = false := by rw [decide_eq_false_iff_not]; omega
        have b2 : ((x.toNat : Int) == 1) = decide (x = 1) := by
          rw [Bool.eq_iff_iff]
          simp only [beq_iff_eq, decide_eq_true_eq]
          exact ⟨fun e => UInt8.toNat_inj.1 (by simp; omega), fun e => by rw [e]; rfl⟩
        have B2 := Lib.hid b2
        clear h1 b2
        go_enter Tryz.func63, Tryz.ntmps63
        go_wp2_with fail
        refine HN.out.mono ?_
        rintro e w1 ⟨rfl, h1, h2⟩
        have HI := Lib.hid h1
        have HG := Lib.hid h2
        clear h1 h2
        go_wp2_with fail
        go_ret
        exact ⟨by rw [← B2.out]; rfl, ⟨k + 1, HI.out, fun _ => ⟨hdd, by omega⟩⟩, HG.out⟩
      · rw [show rdFlag (x :: r) 0 = (false, [], 50) by unfold rdFlag; simp only [if_true, h1, if_false]]
        have hx1 : 1 < x.toNat := Nat.lt_of_not_le h1
        have b1 : decide ((x.toNat : Int) > 1) = true := by rw [decide_eq_true_eq]; omega
        have b2 : ((x.toNat : Int) == 1) = false := by rw [beq_eq_false_iff_ne]; omega
        clear h1
        go_enter Tryz.func63, Tryz.ntmps63
        go_wp2_with fail
        refine HN.out.mono ?_
        rintro e w1 ⟨rfl, h1, h2⟩
        have HI := Lib.hid h1
        have HG := Lib.hid h2
        clear h1 h2
        obtain ⟨A, c, c0, c1, c2, hlt, hfr, hc1, hc2, hr⟩ := HI.out.cells
        have f2 := hfr 2
        have HI2 := Lib.hid (HI.out.setEr 50)
        have HG2 : Hid (Chg (fun x => x = p) w (w1.setCell ⟨p, 2, none⟩ (.int .i64 50))) := Lib.hid (HG.out.setCell (p := ⟨p, 2, none⟩) (.inl rfl) _)
        clear hfr hr
        go_wp2_with fail
        go_ret
        exact ⟨rfl, ⟨k + 1, HI2.out, fun e => by simp at e⟩, HG2.out⟩
    | nil =>
      rw [show rdFlag [] 0 = (false, [], 50) from rfl]
      simp only [List.length_nil] at hrl
      have HN := Lib.hid (rNumb_short B p 1 l k w hI hk (by omega) (by omega) hl)
      clear hI hs hrl hd
      go_enter Tryz.func63, Tryz.ntmps63
      go_wp2_with fail
      refine HN.out.mono ?_
      rintro e w1 ⟨rfl, h1, h2⟩
      have HI := Lib.hid h1
      have HG := Lib.hid h2
      clear h1 h2
      go_wp2_with fail
      go_ret
      exact ⟨rfl, ⟨k, HI.out, fun e => by simp at e⟩, HG.out⟩
  · rw [show rdFlag rest er = (false, rest, er) by unfold rdFlag; rw [if_neg he]]
    have HN := Lib.hid (rNumb_broken B p 1 l k er he w hI hl)
    have HI := Lib.hid hI
    have HSt := Lib.hid hs
    clear hI hs
    go_enter Tryz.func63, Tryz.ntmps63
    go_wp2_with fail
    refine HN.out.mono ?_
    rintro e w1 ⟨rfl, rfl⟩
    go_wp2_with fail
    go_ret
    exact ⟨rfl, ⟨k, HI.out, HSt.out⟩, Chg.refl _ _⟩
end Go.Proofs.YtgmpacndjmmgjaaGreat
end
section
namespace Go.Proofs.YtgmpacndjmmgjaaGreat
open Go.RowKit
set_option linter.unusedVariables false

theorem IsRd.keep {S : Nat → Prop} {B : Nat → Prop} {p : Nat} {w w' : World} {l : List UInt8} {k : Nat} {er : Int} (h : IsRd B p w l k er) (hg : Chg S w w') (hS : ∀ x, S x → ¬ B x) : IsRd B p w' l k er := by
  obtain ⟨A, c, hb, hp, h1, h2, ho⟩ := h
  exact ⟨A, c, (hg.block p (Array.getElem?_eq_some_iff.1 hb).1 (fun e => hS p e hp.1)).trans hb, hp, h1, h2, ho.keep hg (fun b o e _ hl hs => hS b hs (hp.2 b o e hl))⟩
theorem RdSt.keep {S : Nat → Prop} {B : Nat → Prop} {p : Nat} {w w' : World} {l rest : List UInt8} {er : Int} (h : RdSt B p w l rest er) (hg : Chg S w w') (hS : ∀ x, S x → ¬ B x) : RdSt B p w' l rest er := by
  obtain ⟨k, h1, h2⟩ := h
  exact ⟨k, h1.keep hg hS, h2⟩
theorem RdSt.lt {B : Nat → Prop} {p : Nat} {w : World} {l rest : List UInt8} {er : Int} (h : RdSt B p w l rest er) : p < w.heap.size := by
  obtain ⟨k, ⟨A, c, hb, _⟩, _⟩ := h
  exact (Array.getElem?_eq_some_iff.1 hb).1
theorem RdSt.ptr {B : Nat → Prop} {p : Nat} {w : World} {l rest : List UInt8} {er : Int} (h : RdSt B p w l rest er) : B p := by
  obtain ⟨k, ⟨A, c, hb, hp, _⟩, _⟩ := h
  exact hp.1
/-- a tag of which k bytes were laid -/
def tagP (m : List UInt8) (k : Nat) : List UInt8 := m.take k ++ List.replicate (32 - k) 0
theorem tagP_zero (m : List UInt8) : tagP m 0 = zTag := rfl
theorem tagP_len {m : List UInt8} (hm : m.length = 32) {k : Nat} (hk : k ≤ 32) : (tagP m k).length = 32 := by
  unfold tagP
  rw [List.length_append, List.length_take, List.length_replicate]
  omega
theorem tagP_all {m : List UInt8} (hm : m.length = 32) : tagP m 32 = m := by
  unfold tagP
  rw [show 32 - 32 = 0 from rfl, List.replicate_zero, List.append_nil, ← hm, List.take_length]
theorem tagP_set {m : List UInt8} (hm : m.length = 32) {k : Nat} (hk : k < 32) (x : UInt8) (hx : m[k]? = some x) : (tagA (tagP m k)).setIfInBounds k (.int .u8 (x.toNat : Int)) = tagA (tagP m (k + 1)) := by
  have e : (tagP m k).set k x = tagP m (k + 1) := by
    apply List.ext_getElem?
    intro i
    unfold tagP
    rw [List.getElem?_set, List.length_append, List.length_take, List.length_replicate, List.getElem?_append, List.getElem?_append, List.length_take, List.length_take]
    by_cases h1 : k = i
    · subst h1
      rw [if_pos rfl, if_pos (by omega), if_pos (by omega), List.getElem?_take_of_lt (by omega), hx]
    · rw [if_neg h1]
      by_cases h2 : i < k
      · rw [if_pos (by omega), if_pos (by omega), List.getElem?_take_of_lt h2, List.getElem?_take_of_lt (by omega)]
      · rw [if_neg (by omega), if_neg (by omega), List.getElem?_replicate, List.getElem?_replicate]
        by_cases h3 : i < 32
        · rw [if_pos (by omega), if_pos (by omega)]
        · rw [if_neg (by omega), if_neg (by omega)]
  unfold tagA
  rw [List.setIfInBounds_toArray, show (Value.int .u8 (x.toNat : Int)) = bv x from rfl, ← List.map_set, e]

set_option maxRecDepth 100000 in
set_option maxHeartbeats 4000000 in
theorem rTag_tail (B : Nat → Prop) (p : Nat) (l rest : List UInt8) (er : Int) (w : World) (hN : ∀ W, Chg Non w W → Calls Tryz.prog 94 #[.pointer (some ⟨p, 0, none⟩), .int .i64 32] W fun e w' => ∃ A2 c2 m b, e = .returned (.tuple #[.slice A2 m.length c2, .bool b]) ∧ (m = [] ∨ m.length = 32) ∧ tagP m m.length = (rdTag rest er).1 ∧ m.length ≤ c2 ∧ Own W.heap.size w' A2 m ∧ RdSt B p w' l (rdTag rest er).2.1 (rdTag rest er).2.2 ∧ Chg (fun x => x = p) W w')
    (hp : p < w.heap.size) (hB : ∀ x, B x → x < w.heap.size) :
    Calls Tryz.prog 64 #[.pointer (some ⟨p, 0, none⟩)] w fun e w' => e = .returned (.agg (tagA (rdTag rest er).1)) ∧ RdSt B p w' l (rdTag rest er).2.1 (rdTag rest er).2.2 ∧ Chg (fun x => x = p) w w' := by
  have HN := Lib.hid hN
  have HL := Lib.hid (rdTag_len rest er)
  obtain ⟨⟨x, l', er'⟩, hq⟩ : ∃ q, rdTag rest er = q := ⟨_, rfl⟩
  rw [hq] at HN HL ⊢
  simp only at HN HL ⊢
  clear hN hq
  go_enter Tryz.func64, Tryz.ntmps64
  go_wp2_with fail
  refine (HN.out _ (((Chg.refl Non w).alloc _).alloc _)).mono ?_
  rintro e u ⟨A2, c2, m, b, rfl, hm, hx, hmc, hO, hR, hg⟩
  have hb0 : u.heap[w.heap.size]? = some (.cells (tagA zTag) 32 (0, 0)) := by
    rw [hg.block _ (by simp; omega) (by omega), heap_alloc2_old]
    rfl
  have hb1 : u.heap[w.heap.size + 1]? = some (.cells (tagA zTag) 32 (0, 0)) := by
    rw [hg.block _ (by simp) (by omega), heap_alloc2_new]
    rfl
  have hgA : Chg (fun x => x = p) w u := (((Chg.refl Non w).alloc _).alloc _).non_then hg
  have hB0 : ∀ x, B x → x ≠ w.heap.size + 1 ∧ x ≠ w.heap.size := fun x h => by have := hB x h; omega
  have hge : ∀ b o, A2 = some ⟨b, o, none⟩ → m ≠ [] → w.heap.size + 2 ≤ b := fun b o e h => by
    subst e
    have := hO.ge h
    simp at this
    omega
  have HO := Lib.hid hO
  have HR := Lib.hid hR
  have HGA := Lib.hid hgA
  have HB0 := Lib.hid hb0
  have HB1 := Lib.hid hb1
  have HM := Lib.hid hm
  have HX := Lib.hid hx
  have HGE := Lib.hid hge
  have hml : m.length ≤ 32 := by rcases hm with rfl | h <;> simp_all
  clear hO hR hgA hb0 hb1 hm hx hge HN hg
  go_wp2_with fail
  go_loopw [6] (fun iv wr => ∃ k : Nat, k ≤ m.length ∧ iv = .int .i64 k ∧ wr.heap[w.heap.size + 1]? = some (.cells (tagA (tagP m k)) 32 (0, 0)) ∧ Chg (fun x => x = w.heap.size + 1) u wr) (fun iv _ => m.length - (intOf iv).toNat)
  case atStart => exact ⟨0, by omega, rfl, HB1.out, Chg.refl _ _⟩
  case round =>
    obtain ⟨k, hk, rfl, hT, hC⟩ := hrel
    have HT := Lib.hid hT
    have HC := Lib.hid hC
    clear hT hC
    by_cases hlt : k < m.length
    · have hm32 : m.length = 32 := by rcases HM.out with h | h; · subst h; simp at hlt
                                      · exact h
      have hrd : Rd wr A2 m := HO.out.rd.keep HC.out (fun b o e h hs => by have := HGE.out b o e h; omega)
      obtain ⟨bA, oA, rfl, _, hcell⟩ := hrd.at_ (by omega)
      have hk1 := hcell k hlt
      have hlt' : decide ((k : Int) < (m.length : Int)) = true := by simpa using hlt
      have ht : wr.cell? ⟨w.heap.size + 1, k, none⟩ = some (bv ((tagP m k)[k]'(by rw [tagP_len hm32 (by omega)]; omega))) := by
        rw [cell_of_row _ _ _ _ _ _ HT.out]
        unfold tagA
        rw [List.getElem?_toArray, List.getElem?_map, List.getElem?_eq_getElem (by rw [tagP_len hm32 (by omega)]; omega)]
        rfl
      have hf : wr.frozen? ⟨w.heap.size + 1, k, none⟩ = false := frozen_of_row _ _ _ _ _ HT.out
      have HSet := Lib.hid (tagP_set hm32 (by omega) m[k] (List.getElem?_eq_getElem hlt))
      clear hcell hrd
      go_wp2_with fail
      case roundEnd =>
        refine ⟨⟨k + 1, by omega, by simp, ?_, ?_⟩, by simp [intOf]; omega⟩
        · rw [← HSet.out]
          exact r5_setI _ HT.out
        · exact HC.out.setCell (p := ⟨w.heap.size + 1, k, none⟩) (.inl rfl) _
    · obtain rfl : k = m.length := by omega
      have hlt' : decide ((m.length : Int) < (m.length : Int)) = false := by simp
      have HTg : Hid (wr.heap[w.heap.size + 1]? = some (.cells (tagA x) 32 (0, 0))) := Lib.hid (by rw [← HX.out]; exact HT.out)
      have HB9 := Lib.hid ((HC.out.block w.heap.size (Array.getElem?_eq_some_iff.1 HB0.out).1 (by omega)).trans HB0.out)
      have hsz := tagA_size x HL.out
      have HSZ := Lib.hid hsz
      clear hsz HT
      go_wp2_with (first
        | (refine sel (some 24) (.load 32 (.tmp 3)) ?_
           refine wpList_load_tag rfl (.tmp 3) rfl (w.heap.size + 1) 0 rfl x (range_of_tag HTg.out) HL.out ?_)
        | (refine sel none (.store 32 (.tmp 2) (.tmp 24)) ?_
           refine wpList_store_rowA rfl 32 (.tmp 2) (.tmp 24) rfl w.heap.size (tagA x) rfl rfl 32 _ HB9.out (by rw [HSZ.out]; exact info_tag) (by rw [HSZ.out, tagA_size _ zTag_len]) (tagA_one _) ?_
           intro W2 hgW2 hbW2
           have HB2 := Lib.hid hbW2
           have HGW2 := Lib.hid hgW2
           clear hbW2 hgW2))
      have hgU : Chg (fun x => x = w.heap.size + 1 ∨ x = w.heap.size) u W2 := (HC.out.mono (fun x e => .inl e)).trans (HGW2.out) (fun x e => e) (fun x _ e => .inr e)
      have hR4 := HR.out.keep hgU (fun x e hx => by have := hB x hx; omega)
      have hgB : Chg (fun x => x = p) w W2 := HGA.out.then_new hgU (fun x e => by omega)
      exact bodyPost_ret (results_cell_row Tryz.results64 _ _ w.heap.size 32 _ (0, 0) _ rfl HB2.out Tryz.underlying32 rfl (by rw [HSZ.out]; exact info_tag)) rfl ⟨rfl, hR4, hgB⟩

theorem rRTag (B : Nat → Prop) (p : Nat) (l rest : List UInt8) (er : Int) (w : World) (h : RdSt B p w l rest er) (hl : l.length ≤ 65536) (hB : ∀ x, B x → x < w.heap.size) :
    Calls Tryz.prog 64 #[.pointer (some ⟨p, 0, none⟩)] w fun e w' => e = .returned (.agg (tagA (rdTag rest er).1)) ∧ RdSt B p w' l (rdTag rest er).2.1 (rdTag rest er).2.2 ∧ Chg (fun x => x = p) w w' := by
  refine rTag_tail B p l rest er w (fun W hg => ?_) h.lt hB
  obtain ⟨k, hI, hs⟩ := h.non hg
  by_cases he : er = 0
  · subst he
    obtain ⟨hd, hk⟩ := hs rfl
    have hrl : rest.length = l.length - k := by rw [← hd, List.length_drop]
    by_cases h32 : 32 ≤ rest.length
    · have e1 : rdTag rest 0 = (rest.take 32, rest.drop 32, 0) := by unfold rdTag; rw [if_pos rfl, if_pos h32]
      rw [e1]
      have hlen : (rest.take 32).length = 32 := by rw [List.length_take]; omega
      refine (rNext_ok B p 32 l k (by omega) (by omega) (by omega) W hI hl).mono ?_
      rintro e w' ⟨A2, c2, rfl, hO, hc2, hI2, hg2⟩
      rw [hd] at hO
      refine ⟨A2, c2, rest.take 32, true, by rw [hlen], .inr hlen, by rw [hlen]; exact tagP_all hlen, by rw [hlen]; exact hc2, hO, ⟨k + 32, hI2, fun _ => ⟨by rw [← List.drop_drop, hd], by omega⟩⟩, hg2⟩
    · have e1 : rdTag rest 0 = (zTag, [], 50) := by unfold rdTag; rw [if_pos rfl, if_neg h32]
      rw [e1]
      refine (rNext_short B p 32 l k hk (by omega) (by omega) W hI hl).mono ?_
      rintro e w' ⟨rfl, hI2, hg2⟩
      exact ⟨none, 0, [], false, rfl, .inl rfl, rfl, Nat.le_refl _, Own.nil _ _ _, ⟨k, hI2, fun e => by simp at e⟩, hg2⟩
  · have e1 : rdTag rest er = (zTag, rest, er) := by unfold rdTag; rw [if_neg he]
    rw [e1]
    refine (rNext_broken B p 32 l k er he W hI hl).mono ?_
    rintro e w' ⟨rfl, rfl⟩
    exact ⟨none, 0, [], false, rfl, .inl rfl, rfl, Nat.le_refl _, Own.nil _ _ _, ⟨k, hI, hs⟩, Chg.refl _ _⟩

/-- what End tells -/
def rEndV (rest : List UInt8) (er : Int) : Int := if er = 0 then (if rest = [] then 0 else 50) else er
theorem rEndV_zero (rest : List UInt8) (er : Int) : rEndV rest er = 0 ↔ er = 0 ∧ rest = [] := by
  unfold rEndV
  by_cases h : er = 0
  · by_cases h2 : rest = []
    · simp [h, h2]
    · simp [h, h2]
  · simp [h]
set_option maxRecDepth 100000 in
set_option maxHeartbeats 4000000 in
theorem rREnd (B : Nat → Prop) (p : Nat) (l rest : List UInt8) (er : Int) (w : World) (h : RdSt B p w l rest er) (hl : l.length ≤ 65536) :
    Calls Tryz.prog 65 #[.pointer (some ⟨p, 0, none⟩)] w fun e w' => e = .returned (.int .i64 (rEndV rest er)) ∧ Chg Non w w' := by
  obtain ⟨k, hI, hs⟩ := h
  obtain ⟨A, c, c0, c1, c2, hlt, hfr, hc1, hc2, hr⟩ := hI.cells
  clear hr hfr hc1 hc2 hI
  unfold rEndV
  by_cases he : er = 0
  · subst he
    obtain ⟨hd, hk⟩ := hs rfl
    have hrl : rest.length = l.length - k := by rw [← hd, List.length_drop]
    rw [if_pos rfl]
    by_cases hz : rest = []
    · rw [if_pos hz]
      subst hz
      have hb : decide ((k : Int) < (l.length : Int)) = false := by rw [decide_eq_false_iff_not]; simp at hrl; omega
      have hbn : l.length ≤ k := by simp at hrl; omega
      clear hs hd hrl
      go_enter Tryz.func65, Tryz.ntmps65
      go_wp2_with fail
      refine wp_region_held_drew (S := fun W => Chg Non w W) (by kernel_rfl) ((Chg.refl Non _).drew) (fun hHeld => ?_)
      clear hHeld
      refine h_pure 0 (some 3) (.pointer (some ⟨p, 0, none⟩)) rfl (by kernel_rfl) (by kernel_rfl) (by kernel_rfl) (by kernel_rfl) (fun _ _ _ h => h) (by kernel_rfl) (fun W hW => by go_simp) ((Chg.refl Non _).drew) ?_
      simp only [Act.put, List.setIfInBounds_toArray, List.set_cons_zero, List.set_cons_succ]
      refine h_pure 1 (some 4) (.pointer (some ⟨p, 0, none⟩)) rfl (by kernel_rfl) (by kernel_rfl) (by kernel_rfl) (by kernel_rfl) (fun _ _ _ h => h) (by kernel_rfl) (fun W hW => by go_simp) ((Chg.refl Non _).drew) ?_
      simp only [Act.put, List.setIfInBounds_toArray, List.set_cons_zero, List.set_cons_succ]
      refine h_pure 2 (some 5) (.pointer (some ⟨p, 2, none⟩)) rfl (by kernel_rfl) (by kernel_rfl) (by kernel_rfl) (by kernel_rfl) (fun _ _ _ h => h) (by kernel_rfl) (fun W hW => by go_simp) ((Chg.refl Non _).drew) ?_
      simp only [Act.put, List.setIfInBounds_toArray, List.set_cons_zero, List.set_cons_succ]
      refine h_pure 3 (some 6) (.int .i64 0) rfl (by kernel_rfl) (by kernel_rfl) (by kernel_rfl) (by kernel_rfl) (fun _ _ _ h => h) (by kernel_rfl) (fun W hW => by have hq := hW.cell_some c2 (fun e => e); go_simp) ((Chg.refl Non _).drew) ?_
      simp only [Act.put, List.setIfInBounds_toArray, List.set_cons_zero, List.set_cons_succ]
      refine h_pure 4 (some 7) (.bool true) rfl (by kernel_rfl) (by kernel_rfl) (by kernel_rfl) (by kernel_rfl) (fun _ _ _ h => h) (by kernel_rfl) (fun W hW => by go_simp) ((Chg.refl Non _).drew) ?_
      simp only [Act.put, List.setIfInBounds_toArray, List.set_cons_zero, List.set_cons_succ]
      refine h_pure 5 (some 8) (.bool true) rfl (by kernel_rfl) (by kernel_rfl) (by kernel_rfl) (by kernel_rfl) (fun _ _ _ h => h) (by kernel_rfl) (fun W hW => by go_simp) ((Chg.refl Non _).drew) ?_
      simp only [Act.put, List.setIfInBounds_toArray, List.set_cons_zero, List.set_cons_succ]
      refine h_pure 6 (some 9) (.pointer (some ⟨p, 0, none⟩)) rfl (by kernel_rfl) (by kernel_rfl) (by kernel_rfl) (by kernel_rfl) (fun _ _ _ h => h) (by kernel_rfl) (fun W hW => by go_simp) ((Chg.refl Non _).drew) ?_
      simp only [Act.put, List.setIfInBounds_toArray, List.set_cons_zero, List.set_cons_succ]
      refine h_pure 7 (some 10) (.pointer (some ⟨p, 0, none⟩)) rfl (by kernel_rfl) (by kernel_rfl) (by kernel_rfl) (by kernel_rfl) (fun _ _ _ h => h) (by kernel_rfl) (fun W hW => by go_simp) ((Chg.refl Non _).drew) ?_
      simp only [Act.put, List.setIfInBounds_toArray, List.set_cons_zero, List.set_cons_succ]
      refine h_pure 8 (some 11) (.pointer (some ⟨p, 1, none⟩)) rfl (by kernel_rfl) (by kernel_rfl) (by kernel_rfl) (by kernel_rfl) (fun _ _ _ h => h) (by kernel_rfl) (fun W hW => by go_simp) ((Chg.refl Non _).drew) ?_
      simp only [Act.put, List.setIfInBounds_toArray, List.set_cons_zero, List.set_cons_succ]
      refine h_pure 9 (some 12) (.int .i64 k) rfl (by kernel_rfl) (by kernel_rfl) (by kernel_rfl) (by kernel_rfl) (fun _ _ _ h => h) (by kernel_rfl) (fun W hW => by have hq := hW.cell_some c1 (fun e => e); go_simp) ((Chg.refl Non _).drew) ?_
      simp only [Act.put, List.setIfInBounds_toArray, List.set_cons_zero, List.set_cons_succ]
      refine h_pure 10 (some 13) (.pointer (some ⟨p, 0, none⟩)) rfl (by kernel_rfl) (by kernel_rfl) (by kernel_rfl) (by kernel_rfl) (fun _ _ _ h => h) (by kernel_rfl) (fun W hW => by go_simp) ((Chg.refl Non _).drew) ?_
      simp only [Act.put, List.setIfInBounds_toArray, List.set_cons_zero, List.set_cons_succ]
      refine h_pure 11 (some 14) (.pointer (some ⟨p, 0, none⟩)) rfl (by kernel_rfl) (by kernel_rfl) (by kernel_rfl) (by kernel_rfl) (fun _ _ _ h => h) (by kernel_rfl) (fun W hW => by go_simp) ((Chg.refl Non _).drew) ?_
      simp only [Act.put, List.setIfInBounds_toArray, List.set_cons_zero, List.set_cons_succ]
      refine h_pure 12 (some 15) (.pointer (some ⟨p, 0, none⟩)) rfl (by kernel_rfl) (by kernel_rfl) (by kernel_rfl) (by kernel_rfl) (fun _ _ _ h => h) (by kernel_rfl) (fun W hW => by go_simp) ((Chg.refl Non _).drew) ?_
      simp only [Act.put, List.setIfInBounds_toArray, List.set_cons_zero, List.set_cons_succ]
      refine h_pure 13 (some 16) (.slice A l.length c) rfl (by kernel_rfl) (by kernel_rfl) (by kernel_rfl) (by kernel_rfl) (fun _ _ _ h => h) (by kernel_rfl) (fun W hW => by have hq := hW.cell_some c0 (fun e => e); go_simp) ((Chg.refl Non _).drew) ?_
      simp only [Act.put, List.setIfInBounds_toArray, List.set_cons_zero, List.set_cons_succ]
      refine h_pure 14 (some 17) (.int .i64 l.length) rfl (by kernel_rfl) (by kernel_rfl) (by kernel_rfl) (by kernel_rfl) (fun _ _ _ h => h) (by kernel_rfl) (fun W hW => by go_simp) ((Chg.refl Non _).drew) ?_
      simp only [Act.put, List.setIfInBounds_toArray, List.set_cons_zero, List.set_cons_succ]
      refine h_pure 15 (some 18) (.bool false) rfl (by kernel_rfl) (by kernel_rfl) (by kernel_rfl) (by kernel_rfl) (fun _ _ _ h => h) (by kernel_rfl) (fun W hW => by go_simp) ((Chg.refl Non _).drew) ?_
      simp only [Act.put, List.setIfInBounds_toArray, List.set_cons_zero, List.set_cons_succ]
      refine h_pure 16 (some 19) (.bool false) rfl (by kernel_rfl) (by kernel_rfl) (by kernel_rfl) (by kernel_rfl) (fun _ _ _ h => h) (by kernel_rfl) (fun W hW => by go_simp) ((Chg.refl Non _).drew) ?_
      simp only [Act.put, List.setIfInBounds_toArray, List.set_cons_zero, List.set_cons_succ]
      refine wpAnyH_done (by kernel_rfl) ?_ _
      have c2 : w.drew.cell? ⟨p, 2, none⟩ = some (.int .i64 0) := c2
      have hg9 : Chg Non w w.drew := (Chg.refl _ _).drew
      generalize w.drew = w9 at *
      go_wp2_with fail
      go_ret
      exact ⟨rfl, hg9⟩
    · rw [if_neg hz]
      have hpos := List.length_pos_iff.2 hz
      have hb : decide ((k : Int) < (l.length : Int)) = true := by rw [decide_eq_true_eq]; omega
      have hbn : k < l.length := by omega
      clear hs hd hrl hpos hz
      go_enter Tryz.func65, Tryz.ntmps65
      go_wp2_with fail
      refine wp_region_held_drew (S := fun W => Chg Non w W) (by kernel_rfl) ((Chg.refl Non _).drew) (fun hHeld => ?_)
      clear hHeld
      refine h_pure 0 (some 3) (.pointer (some ⟨p, 0, none⟩)) rfl (by kernel_rfl) (by kernel_rfl) (by kernel_rfl) (by kernel_rfl) (fun _ _ _ h => h) (by kernel_rfl) (fun W hW => by go_simp) ((Chg.refl Non _).drew) ?_
      simp only [Act.put, List.setIfInBounds_toArray, List.set_cons_zero, List.set_cons_succ]
      refine h_pure 1 (some 4) (.pointer (some ⟨p, 0, none⟩)) rfl (by kernel_rfl) (by kernel_rfl) (by kernel_rfl) (by kernel_rfl) (fun _ _ _ h => h) (by kernel_rfl) (fun W hW => by go_simp) ((Chg.refl Non _).drew) ?_
      simp only [Act.put, List.setIfInBounds_toArray, List.set_cons_zero, List.set_cons_succ]
      refine h_pure 2 (some 5) (.pointer (some ⟨p, 2, none⟩)) rfl (by kernel_rfl) (by kernel_rfl) (by kernel_rfl) (by kernel_rfl) (fun _ _ _ h => h) (by kernel_rfl) (fun W hW => by go_simp) ((Chg.refl Non _).drew) ?_
      simp only [Act.put, List.setIfInBounds_toArray, List.set_cons_zero, List.set_cons_succ]
      refine h_pure 3 (some 6) (.int .i64 0) rfl (by kernel_rfl) (by kernel_rfl) (by kernel_rfl) (by kernel_rfl) (fun _ _ _ h => h) (by kernel_rfl) (fun W hW => by have hq := hW.cell_some c2 (fun e => e); go_simp) ((Chg.refl Non _).drew) ?_
      simp only [Act.put, List.setIfInBounds_toArray, List.set_cons_zero, List.set_cons_succ]
      refine h_pure 4 (some 7) (.bool true) rfl (by kernel_rfl) (by kernel_rfl) (by kernel_rfl) (by kernel_rfl) (fun _ _ _ h => h) (by kernel_rfl) (fun W hW => by go_simp) ((Chg.refl Non _).drew) ?_
      simp only [Act.put, List.setIfInBounds_toArray, List.set_cons_zero, List.set_cons_succ]
      refine h_pure 5 (some 8) (.bool true) rfl (by kernel_rfl) (by kernel_rfl) (by kernel_rfl) (by kernel_rfl) (fun _ _ _ h => h) (by kernel_rfl) (fun W hW => by go_simp) ((Chg.refl Non _).drew) ?_
      simp only [Act.put, List.setIfInBounds_toArray, List.set_cons_zero, List.set_cons_succ]
      refine h_pure 6 (some 9) (.pointer (some ⟨p, 0, none⟩)) rfl (by kernel_rfl) (by kernel_rfl) (by kernel_rfl) (by kernel_rfl) (fun _ _ _ h => h) (by kernel_rfl) (fun W hW => by go_simp) ((Chg.refl Non _).drew) ?_
      simp only [Act.put, List.setIfInBounds_toArray, List.set_cons_zero, List.set_cons_succ]
      refine h_pure 7 (some 10) (.pointer (some ⟨p, 0, none⟩)) rfl (by kernel_rfl) (by kernel_rfl) (by kernel_rfl) (by kernel_rfl) (fun _ _ _ h => h) (by kernel_rfl) (fun W hW => by go_simp) ((Chg.refl Non _).drew) ?_
      simp only [Act.put, List.setIfInBounds_toArray, List.set_cons_zero, List.set_cons_succ]
      refine h_pure 8 (some 11) (.pointer (some ⟨p, 1, none⟩)) rfl (by kernel_rfl) (by kernel_rfl) (by kernel_rfl) (by kernel_rfl) (fun _ _ _ h => h) (by kernel_rfl) (fun W hW => by go_simp) ((Chg.refl Non _).drew) ?_
      simp only [Act.put, List.setIfInBounds_toArray, List.set_cons_zero, List.set_cons_succ]
      refine h_pure 9 (some 12) (.int .i64 k) rfl (by kernel_rfl) (by kernel_rfl) (by kernel_rfl) (by kernel_rfl) (fun _ _ _ h => h) (by kernel_rfl) (fun W hW => by have hq := hW.cell_some c1 (fun e => e); go_simp) ((Chg.refl Non _).drew) ?_
      simp only [Act.put, List.setIfInBounds_toArray, List.set_cons_zero, List.set_cons_succ]
      refine h_pure 10 (some 13) (.pointer (some ⟨p, 0, none⟩)) rfl (by kernel_rfl) (by kernel_rfl) (by kernel_rfl) (by kernel_rfl) (fun _ _ _ h => h) (by kernel_rfl) (fun W hW => by go_simp) ((Chg.refl Non _).drew) ?_
      simp only [Act.put, List.setIfInBounds_toArray, List.set_cons_zero, List.set_cons_succ]
      refine h_pure 11 (some 14) (.pointer (some ⟨p, 0, none⟩)) rfl (by kernel_rfl) (by kernel_rfl) (by kernel_rfl) (by kernel_rfl) (fun _ _ _ h => h) (by kernel_rfl) (fun W hW => by go_simp) ((Chg.refl Non _).drew) ?_
      simp only [Act.put, List.setIfInBounds_toArray, List.set_cons_zero, List.set_cons_succ]
      refine h_pure 12 (some 15) (.pointer (some ⟨p, 0, none⟩)) rfl (by kernel_rfl) (by kernel_rfl) (by kernel_rfl) (by kernel_rfl) (fun _ _ _ h => h) (by kernel_rfl) (fun W hW => by go_simp) ((Chg.refl Non _).drew) ?_
      simp only [Act.put, List.setIfInBounds_toArray, List.set_cons_zero, List.set_cons_succ]
      refine h_pure 13 (some 16) (.slice A l.length c) rfl (by kernel_rfl) (by kernel_rfl) (by kernel_rfl) (by kernel_rfl) (fun _ _ _ h => h) (by kernel_rfl) (fun W hW => by have hq := hW.cell_some c0 (fun e => e); go_simp) ((Chg.refl Non _).drew) ?_
      simp only [Act.put, List.setIfInBounds_toArray, List.set_cons_zero, List.set_cons_succ]
      refine h_pure 14 (some 17) (.int .i64 l.length) rfl (by kernel_rfl) (by kernel_rfl) (by kernel_rfl) (by kernel_rfl) (fun _ _ _ h => h) (by kernel_rfl) (fun W hW => by go_simp) ((Chg.refl Non _).drew) ?_
      simp only [Act.put, List.setIfInBounds_toArray, List.set_cons_zero, List.set_cons_succ]
      refine h_pure 15 (some 18) (.bool true) rfl (by kernel_rfl) (by kernel_rfl) (by kernel_rfl) (by kernel_rfl) (fun _ _ _ h => h) (by kernel_rfl) (fun W hW => by go_simp) ((Chg.refl Non _).drew) ?_
      simp only [Act.put, List.setIfInBounds_toArray, List.set_cons_zero, List.set_cons_succ]
      refine h_pure 16 (some 19) (.bool true) rfl (by kernel_rfl) (by kernel_rfl) (by kernel_rfl) (by kernel_rfl) (fun _ _ _ h => h) (by kernel_rfl) (fun W hW => by go_simp) ((Chg.refl Non _).drew) ?_
      simp only [Act.put, List.setIfInBounds_toArray, List.set_cons_zero, List.set_cons_succ]
      refine wpAnyH_done (by kernel_rfl) ?_ _
      have hg9 : Chg Non w w.drew := (Chg.refl _ _).drew
      generalize w.drew = w9 at *
      go_wp2_with fail
      go_ret
      exact ⟨rfl, hg9⟩
  · rw [if_neg he]
    skip
    · have hb : (er == 0) = false := by rw [beq_eq_false_iff_ne]; exact he
      have HE := Lib.hid he
      clear hs he
      go_enter Tryz.func65, Tryz.ntmps65
      go_wp2_with fail
      refine wp_region_held_drew (S := fun W => Chg Non w W) (by kernel_rfl) ((Chg.refl Non _).drew) (fun hHeld => ?_)
      clear hHeld
      refine h_pure 0 (some 3) (.pointer (some ⟨p, 0, none⟩)) rfl (by kernel_rfl) (by kernel_rfl) (by kernel_rfl) (by kernel_rfl) (fun _ _ _ h => h) (by kernel_rfl) (fun W hW => by go_simp) ((Chg.refl Non _).drew) ?_
      simp only [Act.put, List.setIfInBounds_toArray, List.set_cons_zero, List.set_cons_succ]
      refine h_pure 1 (some 4) (.pointer (some ⟨p, 0, none⟩)) rfl (by kernel_rfl) (by kernel_rfl) (by kernel_rfl) (by kernel_rfl) (fun _ _ _ h => h) (by kernel_rfl) (fun W hW => by go_simp) ((Chg.refl Non _).drew) ?_
      simp only [Act.put, List.setIfInBounds_toArray, List.set_cons_zero, List.set_cons_succ]
      refine h_pure 2 (some 5) (.pointer (some ⟨p, 2, none⟩)) rfl (by kernel_rfl) (by kernel_rfl) (by kernel_rfl) (by kernel_rfl) (fun _ _ _ h => h) (by kernel_rfl) (fun W hW => by go_simp) ((Chg.refl Non _).drew) ?_
      simp only [Act.put, List.setIfInBounds_toArray, List.set_cons_zero, List.set_cons_succ]
      refine h_pure 3 (some 6) (.int .i64 er) rfl (by kernel_rfl) (by kernel_rfl) (by kernel_rfl) (by kernel_rfl) (fun _ _ _ h => h) (by kernel_rfl) (fun W hW => by have hq := hW.cell_some c2 (fun e => e); go_simp) ((Chg.refl Non _).drew) ?_
      simp only [Act.put, List.setIfInBounds_toArray, List.set_cons_zero, List.set_cons_succ]
      refine h_pure 4 (some 7) (.bool false) rfl (by kernel_rfl) (by kernel_rfl) (by kernel_rfl) (by kernel_rfl) (fun _ _ _ h => h) (by kernel_rfl) (fun W hW => by go_simp) ((Chg.refl Non _).drew) ?_
      simp only [Act.put, List.setIfInBounds_toArray, List.set_cons_zero, List.set_cons_succ]
      refine h_pure 5 (some 8) (.bool false) rfl (by kernel_rfl) (by kernel_rfl) (by kernel_rfl) (by kernel_rfl) (fun _ _ _ h => h) (by kernel_rfl) (fun W hW => by go_simp) ((Chg.refl Non _).drew) ?_
      simp only [Act.put, List.setIfInBounds_toArray, List.set_cons_zero, List.set_cons_succ]
      refine h_skip 6 (some 9) rfl (by kernel_rfl) (by kernel_rfl) (by kernel_rfl) (by kernel_rfl) (fun _ _ _ h => h) (by kernel_rfl) ((Chg.refl Non _).drew) ?_
      simp only [Act.put, List.setIfInBounds_toArray, List.set_cons_zero, List.set_cons_succ]
      refine h_skip 7 (some 10) rfl (by kernel_rfl) (by kernel_rfl) (by kernel_rfl) (by kernel_rfl) (fun _ _ _ h => h) (by kernel_rfl) ((Chg.refl Non _).drew) ?_
      simp only [Act.put, List.setIfInBounds_toArray, List.set_cons_zero, List.set_cons_succ]
      refine h_skip 8 (some 11) rfl (by kernel_rfl) (by kernel_rfl) (by kernel_rfl) (by kernel_rfl) (fun _ _ _ h => h) (by kernel_rfl) ((Chg.refl Non _).drew) ?_
      simp only [Act.put, List.setIfInBounds_toArray, List.set_cons_zero, List.set_cons_succ]
      refine h_skip 9 (some 12) rfl (by kernel_rfl) (by kernel_rfl) (by kernel_rfl) (by kernel_rfl) (fun _ _ _ h => h) (by kernel_rfl) ((Chg.refl Non _).drew) ?_
      simp only [Act.put, List.setIfInBounds_toArray, List.set_cons_zero, List.set_cons_succ]
      refine h_skip 10 (some 13) rfl (by kernel_rfl) (by kernel_rfl) (by kernel_rfl) (by kernel_rfl) (fun _ _ _ h => h) (by kernel_rfl) ((Chg.refl Non _).drew) ?_
      simp only [Act.put, List.setIfInBounds_toArray, List.set_cons_zero, List.set_cons_succ]
      refine h_skip 11 (some 14) rfl (by kernel_rfl) (by kernel_rfl) (by kernel_rfl) (by kernel_rfl) (fun _ _ _ h => h) (by kernel_rfl) ((Chg.refl Non _).drew) ?_
      simp only [Act.put, List.setIfInBounds_toArray, List.set_cons_zero, List.set_cons_succ]
      refine h_skip 12 (some 15) rfl (by kernel_rfl) (by kernel_rfl) (by kernel_rfl) (by kernel_rfl) (fun _ _ _ h => h) (by kernel_rfl) ((Chg.refl Non _).drew) ?_
      simp only [Act.put, List.setIfInBounds_toArray, List.set_cons_zero, List.set_cons_succ]
      refine h_skip 13 (some 16) rfl (by kernel_rfl) (by kernel_rfl) (by kernel_rfl) (by kernel_rfl) (fun _ _ _ h => h) (by kernel_rfl) ((Chg.refl Non _).drew) ?_
      simp only [Act.put, List.setIfInBounds_toArray, List.set_cons_zero, List.set_cons_succ]
      refine h_skip 14 (some 17) rfl (by kernel_rfl) (by kernel_rfl) (by kernel_rfl) (by kernel_rfl) (fun _ _ _ h => h) (by kernel_rfl) ((Chg.refl Non _).drew) ?_
      simp only [Act.put, List.setIfInBounds_toArray, List.set_cons_zero, List.set_cons_succ]
      refine h_skip 15 (some 18) rfl (by kernel_rfl) (by kernel_rfl) (by kernel_rfl) (by kernel_rfl) (fun _ _ _ h => h) (by kernel_rfl) ((Chg.refl Non _).drew) ?_
      simp only [Act.put, List.setIfInBounds_toArray, List.set_cons_zero, List.set_cons_succ]
      refine h_pure 16 (some 19) (.bool false) rfl (by kernel_rfl) (by kernel_rfl) (by kernel_rfl) (by kernel_rfl) (fun _ _ _ h => h) (by kernel_rfl) (fun W hW => by go_simp) ((Chg.refl Non _).drew) ?_
      simp only [Act.put, List.setIfInBounds_toArray, List.set_cons_zero, List.set_cons_succ]
      refine wpAnyH_done (by kernel_rfl) ?_ _
      have c2 : w.drew.cell? ⟨p, 2, none⟩ = some (.int .i64 er) := c2
      have hg9 : Chg Non w w.drew := (Chg.refl _ _).drew
      generalize w.drew = w9 at *
      go_wp2_with fail
      go_ret
      exact ⟨rfl, hg9⟩
end Go.Proofs.YtgmpacndjmmgjaaGreat
end
section
namespace Go.Proofs.YtgmpacndjmmgjaaGreat
open Go.RowKit
set_option linter.unusedVariables false

/-- what holds while the document reads a record's fields: the reader p, the record's block r, the result's block g -/
structure StR (w : World) (B : Nat → Prop) (p r : Nat) (m : List UInt8) (C : Array Value) (rest : List UInt8) (er : Int) (W : World) : Prop where
  rd : RdSt B p W m rest er
  rcd : W.heap[r]? = some (.cells C 34 (0, 0))
  res : W.heap[w.heap.size]? = some (.cells recZ 34 (0, 0))
  chg : Chg Non w W
  size : C.size = 36
  lo : ∀ x, B x → w.heap.size < x ∧ x < r
  rg : w.heap.size < r
namespace StR
variable {w W W' : World} {B : Nat → Prop} {p r : Nat} {m rest rest' : List UInt8} {C : Array Value} {er er' : Int}
theorem call (h : StR w B p r m C rest er W) (hr : RdSt B p W' m rest' er') (hg : Chg (fun x => x = p) W W') : StR w B p r m C rest' er' W' := by
  obtain ⟨h1, h2, h3, h4, h5, h6, h7⟩ := h
  have hp := h6 p h1.ptr
  refine ⟨hr, ?_, ?_, h4.then_new hg (fun x e => by omega), h5, h6, h7⟩
  · exact (hg.block r (Array.getElem?_eq_some_iff.1 h2).1 (by omega)).trans h2
  · exact (hg.block _ (Array.getElem?_eq_some_iff.1 h3).1 (by omega)).trans h3
theorem set (h : StR w B p r m C rest er W) (i : Nat) (v : Value) : StR w B p r m (C.setIfInBounds i v) rest er (W.setCell ⟨r, i, none⟩ v) := by
  obtain ⟨h1, h2, h3, h4, h5, h6, h7⟩ := h
  have hg : Chg (fun x => x = r) W (W.setCell ⟨r, i, none⟩ v) := (Chg.refl (fun x => x = r) _).setCell (p := ⟨r, i, none⟩) (.inl rfl) v
  refine ⟨h1.keep hg (fun x e hb => by have := h6 x hb; omega), r5_setI v h2, ?_, h4.then_new hg (fun x e => by omega), by rw [Array.size_setIfInBounds]; exact h5, h6, h7⟩
  exact (hg.block _ (Array.getElem?_eq_some_iff.1 h3).1 (by omega)).trans h3
theorem cell (h : StR w B p r m C rest er W) (i : Nat) (hi : i < 36) : W.cell? ⟨r, i, none⟩ = some (C[i]'(by rw [h.size]; exact hi)) := by
  rw [cell_of_row _ _ _ _ _ _ h.rcd]
  exact Array.getElem?_eq_getElem _
theorem free (h : StR w B p r m C rest er W) (i : Nat) : W.frozen? ⟨r, i, none⟩ = false := frozen_of_row _ _ _ _ _ h.rcd
theorem there (h : StR w B p r m C rest er W) (o n : Nat) (hn : o + n ≤ 36) : W.there r o n := fun j hj => by
  refine ⟨?_, h.free _⟩
  rw [h.cell (o + j) (by omega)]
  rfl
theorem range4 (h : StR w B p r m C rest er W) {a b c d : Value} (h0 : C[0]? = some a) (h1 : C[1]? = some b) (h2 : C[2]? = some c) (h3 : C[3]? = some d) : W.rangeAt r 0 [a, b, c, d] := by
  intro j v hv
  rw [cell_of_row _ _ _ _ _ _ h.rcd, Nat.zero_add]
  match j, hv with
  | 0, hv => simp at hv; rw [← hv]; exact h0
  | 1, hv => simp at hv; rw [← hv]; exact h1
  | 2, hv => simp at hv; rw [← hv]; exact h2
  | 3, hv => simp at hv; rw [← hv]; exact h3
  | n + 4, hv => simp at hv
end StR
theorem rec_range {W : World} {r : Nat} {x : Rec} (h1 : W.rangeAt r 0 [.int .i64 x.seqn, .int .i64 x.slot, .int .i64 x.len, .bool x.trial]) (h2 : W.rangeAt r 4 (tagA x.hash).toList) : W.rangeAt r 0 (recA x).toList := by
  intro j v hv
  rw [recA_list, List.getElem?_append] at hv
  split at hv
  · exact h1 j v hv
  · rename_i hj
    simp only [List.length_cons, List.length_nil] at hj hv
    have := h2 (j - 4) v (by unfold tagA; simpa using hv)
    rwa [show 4 + (j - 4) = 0 + j by omega] at this
/-- the record read lies in block r; the result's place is block g -/
structure StE (B : Nat → Prop) (p r g : Nat) (m rest : List UInt8) (er : Int) (X : Array Value) (W : World) : Prop where
  rd : RdSt B p W m rest er
  rng : W.rangeAt r 0 X.toList
  old : ∃ old : Array Value, W.heap[g]? = some (.cells old 34 (0, 0)) ∧ old.size = X.size
  lo : ∀ x, B x → x ≠ g
  ne : r ≠ g
namespace StE
variable {W W' : World} {B : Nat → Prop} {p r g : Nat} {m rest : List UInt8} {X : Array Value} {er : Int}
theorem non (h : StE B p r g m rest er X W) (hg : Chg Non W W') : StE B p r g m rest er X W' := by
  obtain ⟨h1, h2, ⟨old, h3, h4⟩, h5, h6⟩ := h
  exact ⟨h1.non hg, range_non hg h2, ⟨old, (hg.block g (Array.getElem?_eq_some_iff.1 h3).1 (fun e => e)).trans h3, h4⟩, h5, h6⟩
theorem put (h : StE B p r g m rest er X W) (hg : Chg (fun k => k = g) W W') (hb : W'.heap[g]? = some (.cells X 34 (0, 0))) : StE B p r g m rest er X W' := by
  obtain ⟨h1, h2, h3, h5, h6⟩ := h
  exact ⟨h1.keep hg (fun x e hx => h5 x hx e), range_keep hg h2 h6, ⟨X, hb, rfl⟩, h5, h6⟩
end StE

set_option maxRecDepth 100000 in
set_option maxHeartbeats 4000000 in
theorem rRead_some (A : Option Addr) (s m : List UInt8) (cap : Nat) (at_ : Nat) (hat : at_ ≤ 1) (w : World) (hr : Rd w A s) (h64 : s.length = 64) (hcap : 64 ≤ cap) (hm : cap ≤ maxLen) (ho : openL 1 s = some m) (hml : m.length ≤ 65536) :
    Calls Tryz.prog 33 #[.slice A 64 cap, .int .i64 at_] w fun e w' => ∃ x b, e = .returned (.tuple #[.agg (recA x), .bool b]) ∧ x.Bd ∧ rAt s at_ = (if b then some x else none) ∧ Chg Non w w' := by
  have HO := Lib.hid (fun W (hg : Chg Non w W) => rOpen 1 A s cap W (hr.non hg) h64 hcap hm)
  have HN := Lib.hid (fun A W c h => rNew A m c W h hml)
  have hbd := recRd_bd s
  have hrs : recRd s = ((recFields m).1, (decide ((recFields m).2.2 = 0) && decide ((recFields m).2.1 = [])) && (recFields m).1.may) := by
    unfold recRd
    rw [ho]
    simp
  have hAt : rAt s at_ = if ((decide ((recFields m).2.2 = 0) && decide ((recFields m).2.1 = [])) && (recFields m).1.may) = true ∧ (recFields m).1.seqn % 2 = at_ then some (recFields m).1 else none := by
    unfold rAt
    rw [hrs]
  rw [hrs] at hbd
  have HHo := Lib.hid ho
  clear hr ho hrs
  obtain ⟨x1, l1, e1, x2, l2, e2, x3, l3, e3, x4, l4, e4, x5, l5, e5, hq1, hq2, hq3, hq4, hq5, hq⟩ := recFields_split m
  rw [hq] at hAt hbd
  simp only at hAt hbd
  have hR1 := fun B p W h => rRInt B p m m 0 W h hml
  have hR2 := fun B p W h => rRByte B p m l1 e1 W h hml
  have hR3 := fun B p W h => rRInt B p m l2 e2 W h hml
  have hR4 := fun B p W h => rRFlag B p m l3 e3 W h hml
  have hR5 := fun B p W h hB => rRTag B p m l4 e4 W h hml hB
  have hRE := fun B p W h => rREnd B p m l5 e5 W h hml
  have hx5 := rdTag_len l4 e4
  rw [hq1] at hR1
  rw [hq2] at hR2
  rw [hq3] at hR3
  rw [hq4] at hR4
  rw [hq5] at hR5 hx5
  simp only at hR1 hR2 hR3 hR4 hR5 hx5
  have H1 := Lib.hid hR1
  have H2 := Lib.hid hR2
  have H3 := Lib.hid hR3
  have H4 := Lib.hid hR4
  have H5 := Lib.hid hR5
  have HE := Lib.hid hRE
  have HX5 := Lib.hid hx5
  have HAt := Lib.hid hAt
  have HBd := Lib.hid hbd
  clear hR1 hR2 hR3 hR4 hR5 hRE hq1 hq2 hq3 hq4 hq5 hq hx5 hAt hbd
  have hb2 : (0 : Int) ≤ (x2.toNat : Int) ∧ (x2.toNat : Int) < 256 := by have := x2.toNat_lt; omega
  have HXS := Lib.hid (recA_size ⟨x1, (x2.toNat : Int), x3, x4, x5⟩ HX5.out)
  have HX1 := Lib.hid (recA_one ⟨x1, (x2.toNat : Int), x3, x4, x5⟩)
  have HX0 := Lib.hid (recA_0 ⟨x1, (x2.toNat : Int), x3, x4, x5⟩)
  have HM := Lib.hid (rMay ⟨x1, (x2.toNat : Int), x3, x4, x5⟩)
  go_enter Tryz.func33, Tryz.ntmps33
  go_wp2_with fail
  refine (HO.out _ ((Chg.refl Non w).alloc _)).mono ?_
  rintro e u ⟨hcase, hg⟩
  rcases Or.symm hcase with ⟨hno, _⟩ | ⟨A1, c1, m', ho', rfl, hc1, hm1, ho1⟩
  · rw [HHo.out] at hno; cases hno
  obtain rfl : m = m' := by rw [HHo.out] at ho'; injection ho'
  have hg0 : Chg Non w u := ((Chg.refl Non w).alloc _).then_non hg
  have HG0 := Lib.hid hg0
  have HZ := Lib.hid ((hg.block w.heap.size (by simp) (fun e => e)).trans (heap_alloc_new _ _))
  have HO1 := Lib.hid ho1.rd
  have hsu : w.heap.size < u.heap.size := by have := hg.size; simp at this; omega
  clear ho' hg hg0 ho1 HO
  go_wp2_with fail
  refine (HN.out A1 u c1 HO1.out).mono ?_
  rintro e u2 ⟨p, rfl, hI, hg2⟩
  obtain ⟨B, hBd⟩ : ∃ B : Nat → Prop, (fun x => u.heap.size ≤ x ∧ x < u2.heap.size) = B := ⟨_, rfl⟩
  rw [hBd] at hI
  have hB : ∀ x, B x → w.heap.size < x ∧ x < u2.heap.size := fun x hx => by rw [← hBd] at hx; exact ⟨by have := hx.1; omega, hx.2⟩
  have hs2 := hg2.size
  have HS : Hid (∀ o : Array Value, o = recZ → StR w B p u2.heap.size m recZ m 0 (u2.alloc (.cells o 34))) := Lib.hid (by
    rintro o rfl
    refine ⟨⟨0, (hI.non ((Chg.refl Non _).alloc _)), fun _ => ⟨List.drop_zero, Nat.zero_le _⟩⟩, heap_alloc_new _ _, ?_, (HG0.out.then_non hg2).alloc _, recZ_size, hB, by omega⟩
    rw [Below.heap_alloc _ _ _ (by omega), hg2.block _ (by omega) (fun e => e)]
    exact HZ.out)
  have H1' : Hid (∀ o : Array Value, o = recZ → Calls Tryz.prog 61 #[.pointer (some ⟨p, 0, none⟩)] (u2.alloc (.cells o 34)) fun e w' => e = .returned (.int .i64 x1) ∧ StR w B p u2.heap.size m recZ l1 e1 w') := Lib.hid (fun o ho => (H1.out B p _ (HS.out o ho).rd).mono (by
    rintro e v ⟨rfl, hR, hg⟩
    exact ⟨rfl, (HS.out o ho).call hR hg⟩))
  clear hI hBd hg2 HN HO1 hc1 hm1 HS
  go_wp2_with fail
  obtain ⟨r, hr⟩ : ∃ r, u2.heap.size = r := ⟨_, rfl⟩
  refine (H1'.out _ (by kernel_rfl)).mono ?_
  rintro e v1 ⟨rfl, hS⟩
  rw [hr] at hS hB hs2 ⊢
  have HS := Lib.hid hS
  clear hr hS H1'
  have k0 := HS.out.cell 0 (by omega)
  have f0 := HS.out.free 0
  go_wp2_with fail
  have HS := Lib.hid (HS.out.set 0 (.int .i64 x1))
  clear k0 f0
  generalize v1.setCell ⟨r, 0, none⟩ (.int .i64 x1) = v1s at HS ⊢
  refine (H2.out B p _ HS.out.rd).mono ?_
  rintro e v2 ⟨rfl, hR, hg⟩
  have HS := Lib.hid (HS.out.call hR hg)
  have k1 := HS.out.cell 1 (by omega)
  have f1 := HS.out.free 1
  clear hR hg
  go_wp2_with fail
  have HS := Lib.hid (HS.out.set 1 (.int .i64 (x2.toNat : Int)))
  clear k1 f1
  generalize v2.setCell ⟨r, 1, none⟩ (.int .i64 (x2.toNat : Int)) = v2s at HS ⊢
  refine (H3.out B p _ HS.out.rd).mono ?_
  rintro e v3 ⟨rfl, hR, hg⟩
  have HS := Lib.hid (HS.out.call hR hg)
  have k2 := HS.out.cell 2 (by omega)
  have f2 := HS.out.free 2
  clear hR hg
  go_wp2_with fail
  have HS := Lib.hid (HS.out.set 2 (.int .i64 x3))
  clear k2 f2
  generalize v3.setCell ⟨r, 2, none⟩ (.int .i64 x3) = v3s at HS ⊢
  refine (H4.out B p _ HS.out.rd).mono ?_
  rintro e v4 ⟨rfl, hR, hg⟩
  have HS := Lib.hid (HS.out.call hR hg)
  have k3 := HS.out.cell 3 (by omega)
  have f3 := HS.out.free 3
  clear hR hg
  go_wp2_with fail
  have HS := Lib.hid (HS.out.set 3 (.bool x4))
  clear k3 f3
  generalize v4.setCell ⟨r, 3, none⟩ (.bool x4) = v4s at HS ⊢
  refine (H5.out B p _ HS.out.rd (fun x hx => by have := HS.out.lo x hx; have := (Array.getElem?_eq_some_iff.1 HS.out.rcd).1; omega)).mono ?_
  rintro e v5 ⟨rfl, hR, hg⟩
  have HS := Lib.hid (HS.out.call hR hg)
  clear hR hg
  have HR4 := Lib.hid (HS.out.range4 (a := .int .i64 x1) (b := .int .i64 (x2.toNat : Int)) (c := .int .i64 x3) (d := .bool x4) (by simp [recZ_size]) (by simp [recZ_size]) (by simp [recZ_size]) (by simp [recZ_size]))
  go_wp2_with (first
    | (refine sel none (.store 32 (.tmp 35) (.tmp 34)) ?_
       refine wpList_store_midA rfl 32 (.tmp 35) (.tmp 34) rfl r 4 (tagA x5) rfl rfl (by rw [tagA_size _ HX5.out]; exact HS.out.there 4 32 (by omega)) (by rw [tagA_size _ HX5.out]; exact info_tag) (tagA_one _) ?_
       intro W hgW hrW hapW _
       have HRG := Lib.hid (rec_range (x := ⟨x1, (x2.toNat : Int), x3, x4, x5⟩) (hapW r 0 _ HR4.out (.inr (.inl (by simp)))) hrW)
       have HGW := Lib.hid hgW
       clear hgW hrW hapW))
  have hgW : Chg Non w W := HS.out.chg.then_new HGW.out (fun x e => by have := HS.out.rg; omega)
  have hne : r ≠ w.heap.size := by have := HS.out.rg; omega
  obtain ⟨X, hX⟩ : ∃ X, recA ⟨x1, (x2.toNat : Int), x3, x4, x5⟩ = X := ⟨_, rfl⟩
  obtain ⟨y, hy⟩ : ∃ y, Rec.may ⟨x1, (x2.toNat : Int), x3, x4, x5⟩ = y := ⟨_, rfl⟩
  rw [hX] at HXS HX1 HRG HX0 HM
  rw [hy] at HM HAt
  have HX0 : Hid (X[0]? = some (.int .i64 x1)) := HX0
  have hSE : StE B p r w.heap.size m l5 e5 X W := by
    refine ⟨HS.out.rd.keep HGW.out (fun x e hx => by have := HS.out.lo x hx; omega), HRG.out, ⟨recZ, ?_, by rw [recZ_size, HXS.out]⟩, fun x hx => by have := HS.out.lo x hx; omega, hne⟩
    exact (HGW.out.block _ (Array.getElem?_eq_some_iff.1 HS.out.res).1 (by omega)).trans HS.out.res
  have HSE := Lib.hid (hSE.non (Chg.refl Non _).drew)
  have HGo := Lib.hid (hgW.drew)
  have HXX := Lib.hid hX
  have HYY := Lib.hid hy
  obtain ⟨xr, hxr⟩ : ∃ xr : Rec, (⟨x1, (x2.toNat : Int), x3, x4, x5⟩ : Rec) = xr := ⟨_, rfl⟩
  have hsx : xr.seqn = x1 := by rw [← hxr]
  rw [hxr] at HAt HBd HXX HYY
  have HSX := Lib.hid hsx
  clear hSE hgW HS HRG HGW H1 H2 H3 H4 H5 HR4 HZ HG0 HHo hB hX hy hxr hsx h64
  by_cases he : rEndV l5 e5 = 0
  case neg =>
    have HNo : Hid (rAt s at_ = none) := Lib.hid (by rw [HAt.out, if_neg (fun h => he (by have := h.1; simp only [Bool.and_eq_true, decide_eq_true_eq] at this; exact (rEndV_zero l5 e5).2 this.1))])
    have HEv := Lib.hid (fun W h => HE.out B p W h)
    have hb0 : (rEndV l5 e5 == 0) = false := by rw [beq_eq_false_iff_ne]; exact he
    generalize rEndV l5 e5 = ev at HEv hb0
    clear HE he
    go_wp2_with fail
    refine wp_region_held_drew (S := StE B p r w.heap.size m l5 e5 X) (by kernel_rfl) HSE.out (fun hHeld => ?_)
    clear hHeld
    refine h_load 0 (some 36) 34 (.tmp 9) r 0 X _ rfl (by kernel_rfl) (by kernel_rfl) (by kernel_rfl) (by kernel_rfl) (by kernel_rfl) (fun _ _ _ h => h) (by kernel_rfl) (by kernel_rfl) (fun w h => h.rng) Tryz.underlying34 rfl (by rw [HXS.out]; exact info_rec) HSE.out ?_
    simp only [Act.put, List.setIfInBounds_toArray, List.set_cons_zero, List.set_cons_succ]
    refine h_pure 1 (some 37) (.pointer (some ⟨p, 0, none⟩)) rfl (by kernel_rfl) (by kernel_rfl) (by kernel_rfl) (by kernel_rfl) (fun _ _ _ h => h) (by kernel_rfl) (fun w hw => by go_simp) HSE.out ?_
    simp only [Act.put, List.setIfInBounds_toArray, List.set_cons_zero, List.set_cons_succ]
    refine h_one 2 (by kernel_rfl) rfl (by kernel_rfl) ?_
    intro K hK
    go_simp
    go_at_call 65
    refine (HEv.out _ HSE.out.rd).mono ?_
    rintro e W1 ⟨rfl, hgE⟩
    have HSE1 := Lib.hid (HSE.out.non hgE)
    have HG1 := Lib.hid (HGo.out.then_non hgE)
    clear hgE
    refine hK.out _ _ HSE1.out (fun _ => ?_)
    clear hK K
    refine h_pure 3 (some 39) (.bool false) rfl (by kernel_rfl) (by kernel_rfl) (by kernel_rfl) (by kernel_rfl) (fun _ _ _ h => h) (by kernel_rfl) (fun w hw => by go_simp) HSE1.out ?_
    simp only [Act.put, List.setIfInBounds_toArray, List.set_cons_zero, List.set_cons_succ]
    refine h_pure 4 (some 40) (.bool false) rfl (by kernel_rfl) (by kernel_rfl) (by kernel_rfl) (by kernel_rfl) (fun _ _ _ h => h) (by kernel_rfl) (fun w hw => by go_simp) HSE1.out ?_
    simp only [Act.put, List.setIfInBounds_toArray, List.set_cons_zero, List.set_cons_succ]
    refine h_skip 5 (some 41) rfl (by kernel_rfl) (by kernel_rfl) (by kernel_rfl) (by kernel_rfl) (fun _ _ _ h => h) (by kernel_rfl) HSE1.out ?_
    simp only [Act.put, List.setIfInBounds_toArray, List.set_cons_zero, List.set_cons_succ]
    refine h_skip 6 (some 42) rfl (by kernel_rfl) (by kernel_rfl) (by kernel_rfl) (by kernel_rfl) (fun _ _ _ h => h) (by kernel_rfl) HSE1.out ?_
    simp only [Act.put, List.setIfInBounds_toArray, List.set_cons_zero, List.set_cons_succ]
    refine h_pure 7 (some 43) (.bool false) rfl (by kernel_rfl) (by kernel_rfl) (by kernel_rfl) (by kernel_rfl) (fun _ _ _ h => h) (by kernel_rfl) (fun w hw => by go_simp) HSE1.out ?_
    simp only [Act.put, List.setIfInBounds_toArray, List.set_cons_zero, List.set_cons_succ]
    refine h_pure 8 (some 44) (.bool false) rfl (by kernel_rfl) (by kernel_rfl) (by kernel_rfl) (by kernel_rfl) (fun _ _ _ h => h) (by kernel_rfl) (fun w hw => by go_simp) HSE1.out ?_
    simp only [Act.put, List.setIfInBounds_toArray, List.set_cons_zero, List.set_cons_succ]
    refine h_skip 9 (some 45) rfl (by kernel_rfl) (by kernel_rfl) (by kernel_rfl) (by kernel_rfl) (fun _ _ _ h => h) (by kernel_rfl) HSE1.out ?_
    simp only [Act.put, List.setIfInBounds_toArray, List.set_cons_zero, List.set_cons_succ]
    refine h_skip 10 (some 46) rfl (by kernel_rfl) (by kernel_rfl) (by kernel_rfl) (by kernel_rfl) (fun _ _ _ h => h) (by kernel_rfl) HSE1.out ?_
    simp only [Act.put, List.setIfInBounds_toArray, List.set_cons_zero, List.set_cons_succ]
    refine h_skip 11 (some 47) rfl (by kernel_rfl) (by kernel_rfl) (by kernel_rfl) (by kernel_rfl) (fun _ _ _ h => h) (by kernel_rfl) HSE1.out ?_
    simp only [Act.put, List.setIfInBounds_toArray, List.set_cons_zero, List.set_cons_succ]
    refine h_skip 12 (some 48) rfl (by kernel_rfl) (by kernel_rfl) (by kernel_rfl) (by kernel_rfl) (fun _ _ _ h => h) (by kernel_rfl) HSE1.out ?_
    simp only [Act.put, List.setIfInBounds_toArray, List.set_cons_zero, List.set_cons_succ]
    refine h_skip 13 (some 49) rfl (by kernel_rfl) (by kernel_rfl) (by kernel_rfl) (by kernel_rfl) (fun _ _ _ h => h) (by kernel_rfl) HSE1.out ?_
    simp only [Act.put, List.setIfInBounds_toArray, List.set_cons_zero, List.set_cons_succ]
    refine h_pure 14 (some 50) (.bool false) rfl (by kernel_rfl) (by kernel_rfl) (by kernel_rfl) (by kernel_rfl) (fun _ _ _ h => h) (by kernel_rfl) (fun w hw => by go_simp) HSE1.out ?_
    simp only [Act.put, List.setIfInBounds_toArray, List.set_cons_zero, List.set_cons_succ]
    refine h_store 15 34 (.tmp 4) (.tmp 36) w.heap.size X (by kernel_rfl) rfl (by kernel_rfl) (by kernel_rfl) (by kernel_rfl) (by kernel_rfl) (by kernel_rfl) 34 HSE1.out.old (by rw [HXS.out]; exact info_rec) HX1.out (fun W3 h1 h2 => HSE1.out.put h1 h2) ?_
    intro W3 hg3 hb3
    have HB3 := Lib.hid (HSE1.out.put hg3 hb3)
    refine h_pure 16 (some 5) (.bool false) rfl (by kernel_rfl) (by kernel_rfl) (by kernel_rfl) (by kernel_rfl) (fun _ _ _ h => h) (by kernel_rfl) (fun w hw => by go_simp) HB3.out ?_
    simp only [Act.put, List.setIfInBounds_toArray, List.set_cons_zero, List.set_cons_succ]
    refine wpAnyH_done (by kernel_rfl) ?_ _
    go_wp2_with fail
    exact bodyPost_ret (run_results_cell_tmp Tryz.results33 _ _ w.heap.size 34 X (0, 0) _ (.bool false) (by kernel_rfl) (by kernel_rfl) hb3 Tryz.underlying34 rfl (by rw [HXS.out]; exact info_rec)) (by kernel_rfl) ⟨xr, false, by rw [HXX.out], HBd.out, HNo.out, HG1.out.then_new hg3 (fun x e => by omega)⟩
  case pos =>
    have HEv : Hid (∀ W, RdSt B p W m l5 e5 → Calls Tryz.prog 65 #[.pointer (some ⟨p, 0, none⟩)] W fun e w' => e = .returned (.int .i64 0) ∧ Chg Non W w') := Lib.hid (fun W h => by have := HE.out B p W h; rw [he] at this; exact this)
    have hzz := (rEndV_zero l5 e5).1 he
    clear HE he
    cases y with
    | false =>
      have HNo : Hid (rAt s at_ = none) := Lib.hid (by rw [HAt.out, if_neg (fun h => by have := h.1; simp at this)])
      clear hzz
      go_wp2_with fail
      refine wp_region_held_drew (S := StE B p r w.heap.size m l5 e5 X) (by kernel_rfl) HSE.out (fun hHeld => ?_)
      clear hHeld
      refine h_load 0 (some 36) 34 (.tmp 9) r 0 X _ rfl (by kernel_rfl) (by kernel_rfl) (by kernel_rfl) (by kernel_rfl) (by kernel_rfl) (fun _ _ _ h => h) (by kernel_rfl) (by kernel_rfl) (fun w h => h.rng) Tryz.underlying34 rfl (by rw [HXS.out]; exact info_rec) HSE.out ?_
      simp only [Act.put, List.setIfInBounds_toArray, List.set_cons_zero, List.set_cons_succ]
      refine h_pure 1 (some 37) (.pointer (some ⟨p, 0, none⟩)) rfl (by kernel_rfl) (by kernel_rfl) (by kernel_rfl) (by kernel_rfl) (fun _ _ _ h => h) (by kernel_rfl) (fun w hw => by go_simp) HSE.out ?_
      simp only [Act.put, List.setIfInBounds_toArray, List.set_cons_zero, List.set_cons_succ]
      refine h_one 2 (by kernel_rfl) rfl (by kernel_rfl) ?_
      intro K hK
      go_simp
      go_at_call 65
      refine (HEv.out _ HSE.out.rd).mono ?_
      rintro e W1 ⟨rfl, hgE⟩
      have HSE1 := Lib.hid (HSE.out.non hgE)
      have HG1 := Lib.hid (HGo.out.then_non hgE)
      clear hgE
      refine hK.out _ _ HSE1.out (fun _ => ?_)
      clear hK K
      refine h_pure 3 (some 39) (.bool true) rfl (by kernel_rfl) (by kernel_rfl) (by kernel_rfl) (by kernel_rfl) (fun _ _ _ h => h) (by kernel_rfl) (fun w hw => by go_simp) HSE1.out ?_
      simp only [Act.put, List.setIfInBounds_toArray, List.set_cons_zero, List.set_cons_succ]
      refine h_pure 4 (some 40) (.bool true) rfl (by kernel_rfl) (by kernel_rfl) (by kernel_rfl) (by kernel_rfl) (fun _ _ _ h => h) (by kernel_rfl) (fun w hw => by go_simp) HSE1.out ?_
      simp only [Act.put, List.setIfInBounds_toArray, List.set_cons_zero, List.set_cons_succ]
      refine h_load 5 (some 41) 34 (.tmp 9) r 0 X _ rfl (by kernel_rfl) (by kernel_rfl) (by kernel_rfl) (by kernel_rfl) (by kernel_rfl) (fun _ _ _ h => h) (by kernel_rfl) (by kernel_rfl) (fun w h => h.rng) Tryz.underlying34 rfl (by rw [HXS.out]; exact info_rec) HSE1.out ?_
      simp only [Act.put, List.setIfInBounds_toArray, List.set_cons_zero, List.set_cons_succ]
      refine h_one 6 (by kernel_rfl) rfl (by kernel_rfl) ?_
      intro K hK
      go_simp
      go_at_call 8
      refine (HM.out _).mono ?_
      rintro e W2 ⟨rfl, hgM⟩
      have HSE2 := Lib.hid (HSE1.out.non hgM)
      have HG2 := Lib.hid (HG1.out.then_non hgM)
      clear hgM
      refine hK.out _ _ HSE2.out (fun _ => ?_)
      clear hK K
      refine h_pure 7 (some 43) (.bool false) rfl (by kernel_rfl) (by kernel_rfl) (by kernel_rfl) (by kernel_rfl) (fun _ _ _ h => h) (by kernel_rfl) (fun w hw => by go_simp) HSE2.out ?_
      simp only [Act.put, List.setIfInBounds_toArray, List.set_cons_zero, List.set_cons_succ]
      refine h_pure 8 (some 44) (.bool false) rfl (by kernel_rfl) (by kernel_rfl) (by kernel_rfl) (by kernel_rfl) (fun _ _ _ h => h) (by kernel_rfl) (fun w hw => by go_simp) HSE2.out ?_
      simp only [Act.put, List.setIfInBounds_toArray, List.set_cons_zero, List.set_cons_succ]
      refine h_skip 9 (some 45) rfl (by kernel_rfl) (by kernel_rfl) (by kernel_rfl) (by kernel_rfl) (fun _ _ _ h => h) (by kernel_rfl) HSE2.out ?_
      simp only [Act.put, List.setIfInBounds_toArray, List.set_cons_zero, List.set_cons_succ]
      refine h_skip 10 (some 46) rfl (by kernel_rfl) (by kernel_rfl) (by kernel_rfl) (by kernel_rfl) (fun _ _ _ h => h) (by kernel_rfl) HSE2.out ?_
      simp only [Act.put, List.setIfInBounds_toArray, List.set_cons_zero, List.set_cons_succ]
      refine h_skip 11 (some 47) rfl (by kernel_rfl) (by kernel_rfl) (by kernel_rfl) (by kernel_rfl) (fun _ _ _ h => h) (by kernel_rfl) HSE2.out ?_
      simp only [Act.put, List.setIfInBounds_toArray, List.set_cons_zero, List.set_cons_succ]
      refine h_skip 12 (some 48) rfl (by kernel_rfl) (by kernel_rfl) (by kernel_rfl) (by kernel_rfl) (fun _ _ _ h => h) (by kernel_rfl) HSE2.out ?_
      simp only [Act.put, List.setIfInBounds_toArray, List.set_cons_zero, List.set_cons_succ]
      refine h_skip 13 (some 49) rfl (by kernel_rfl) (by kernel_rfl) (by kernel_rfl) (by kernel_rfl) (fun _ _ _ h => h) (by kernel_rfl) HSE2.out ?_
      simp only [Act.put, List.setIfInBounds_toArray, List.set_cons_zero, List.set_cons_succ]
      refine h_pure 14 (some 50) (.bool false) rfl (by kernel_rfl) (by kernel_rfl) (by kernel_rfl) (by kernel_rfl) (fun _ _ _ h => h) (by kernel_rfl) (fun w hw => by go_simp) HSE2.out ?_
      simp only [Act.put, List.setIfInBounds_toArray, List.set_cons_zero, List.set_cons_succ]
      refine h_store 15 34 (.tmp 4) (.tmp 36) w.heap.size X (by kernel_rfl) rfl (by kernel_rfl) (by kernel_rfl) (by kernel_rfl) (by kernel_rfl) (by kernel_rfl) 34 HSE2.out.old (by rw [HXS.out]; exact info_rec) HX1.out (fun W3 h1 h2 => HSE2.out.put h1 h2) ?_
      intro W3 hg3 hb3
      have HB3 := Lib.hid (HSE2.out.put hg3 hb3)
      refine h_pure 16 (some 5) (.bool false) rfl (by kernel_rfl) (by kernel_rfl) (by kernel_rfl) (by kernel_rfl) (fun _ _ _ h => h) (by kernel_rfl) (fun w hw => by go_simp) HB3.out ?_
      simp only [Act.put, List.setIfInBounds_toArray, List.set_cons_zero, List.set_cons_succ]
      refine wpAnyH_done (by kernel_rfl) ?_ _
      go_wp2_with fail
      exact bodyPost_ret (run_results_cell_tmp Tryz.results33 _ _ w.heap.size 34 X (0, 0) _ (.bool false) (by kernel_rfl) (by kernel_rfl) hb3 Tryz.underlying34 rfl (by rw [HXS.out]; exact info_rec)) (by kernel_rfl) ⟨xr, false, by rw [HXX.out], HBd.out, HNo.out, HG2.out.then_new hg3 (fun x e => by omega)⟩
    | true =>
      have hseq : 0 ≤ x1 := by have := (may_true HYY.out).1; rw [HSX.out] at this; omega
      have htm : x1.tmod 2 = x1 % 2 := Int.tmod_eq_emod_of_nonneg hseq
      have hwr : IntKind.i64.wrap (x1 % 2) = x1 % 2 := Go.IntWalk.i64_in _ (by omega)
      obtain ⟨q, hqq⟩ : ∃ q, (x1 % 2 == (at_ : Int)) = q := ⟨_, rfl⟩
      have HYes : Hid (rAt s at_ = if q then some xr else none) := Lib.hid (by
        rw [HAt.out, ← hqq]
        simp [hzz.1, hzz.2])
      clear hzz HAt
      go_wp2_with fail
      refine wp_region_held_drew (S := StE B p r w.heap.size m l5 e5 X) (by kernel_rfl) HSE.out (fun hHeld => ?_)
      clear hHeld
      refine h_load 0 (some 36) 34 (.tmp 9) r 0 X _ rfl (by kernel_rfl) (by kernel_rfl) (by kernel_rfl) (by kernel_rfl) (by kernel_rfl) (fun _ _ _ h => h) (by kernel_rfl) (by kernel_rfl) (fun w h => h.rng) Tryz.underlying34 rfl (by rw [HXS.out]; exact info_rec) HSE.out ?_
      simp only [Act.put, List.setIfInBounds_toArray, List.set_cons_zero, List.set_cons_succ]
      refine h_pure 1 (some 37) (.pointer (some ⟨p, 0, none⟩)) rfl (by kernel_rfl) (by kernel_rfl) (by kernel_rfl) (by kernel_rfl) (fun _ _ _ h => h) (by kernel_rfl) (fun w hw => by go_simp) HSE.out ?_
      simp only [Act.put, List.setIfInBounds_toArray, List.set_cons_zero, List.set_cons_succ]
      refine h_one 2 (by kernel_rfl) rfl (by kernel_rfl) ?_
      intro K hK
      go_simp
      go_at_call 65
      refine (HEv.out _ HSE.out.rd).mono ?_
      rintro e W1 ⟨rfl, hgE⟩
      have HSE1 := Lib.hid (HSE.out.non hgE)
      have HG1 := Lib.hid (HGo.out.then_non hgE)
      clear hgE
      refine hK.out _ _ HSE1.out (fun _ => ?_)
      clear hK K
      refine h_pure 3 (some 39) (.bool true) rfl (by kernel_rfl) (by kernel_rfl) (by kernel_rfl) (by kernel_rfl) (fun _ _ _ h => h) (by kernel_rfl) (fun w hw => by go_simp) HSE1.out ?_
      simp only [Act.put, List.setIfInBounds_toArray, List.set_cons_zero, List.set_cons_succ]
      refine h_pure 4 (some 40) (.bool true) rfl (by kernel_rfl) (by kernel_rfl) (by kernel_rfl) (by kernel_rfl) (fun _ _ _ h => h) (by kernel_rfl) (fun w hw => by go_simp) HSE1.out ?_
      simp only [Act.put, List.setIfInBounds_toArray, List.set_cons_zero, List.set_cons_succ]
      refine h_load 5 (some 41) 34 (.tmp 9) r 0 X _ rfl (by kernel_rfl) (by kernel_rfl) (by kernel_rfl) (by kernel_rfl) (by kernel_rfl) (fun _ _ _ h => h) (by kernel_rfl) (by kernel_rfl) (fun w h => h.rng) Tryz.underlying34 rfl (by rw [HXS.out]; exact info_rec) HSE1.out ?_
      simp only [Act.put, List.setIfInBounds_toArray, List.set_cons_zero, List.set_cons_succ]
      refine h_one 6 (by kernel_rfl) rfl (by kernel_rfl) ?_
      intro K hK
      go_simp
      go_at_call 8
      refine (HM.out _).mono ?_
      rintro e W2 ⟨rfl, hgM⟩
      have HSE2 := Lib.hid (HSE1.out.non hgM)
      have HG2 := Lib.hid (HG1.out.then_non hgM)
      clear hgM
      refine hK.out _ _ HSE2.out (fun _ => ?_)
      clear hK K
      refine h_pure 7 (some 43) (.bool true) rfl (by kernel_rfl) (by kernel_rfl) (by kernel_rfl) (by kernel_rfl) (fun _ _ _ h => h) (by kernel_rfl) (fun w hw => by go_simp) HSE2.out ?_
      simp only [Act.put, List.setIfInBounds_toArray, List.set_cons_zero, List.set_cons_succ]
      refine h_pure 8 (some 44) (.bool true) rfl (by kernel_rfl) (by kernel_rfl) (by kernel_rfl) (by kernel_rfl) (fun _ _ _ h => h) (by kernel_rfl) (fun w hw => by go_simp) HSE2.out ?_
      simp only [Act.put, List.setIfInBounds_toArray, List.set_cons_zero, List.set_cons_succ]
      refine h_pure 9 (some 45) (.pointer (some ⟨r, 0, none⟩)) rfl (by kernel_rfl) (by kernel_rfl) (by kernel_rfl) (by kernel_rfl) (fun _ _ _ h => h) (by kernel_rfl) (fun w hw => by go_simp) HSE2.out ?_
      simp only [Act.put, List.setIfInBounds_toArray, List.set_cons_zero, List.set_cons_succ]
      refine h_pure 10 (some 46) (.int .i64 x1) rfl (by kernel_rfl) (by kernel_rfl) (by kernel_rfl) (by kernel_rfl) (fun _ _ _ h => h) (by kernel_rfl) (fun w hw => by have hc := hw.rng 0 _ (show X.toList[0]? = _ by rw [Array.getElem?_toList]; exact HX0.out); go_simp) HSE2.out ?_
      simp only [Act.put, List.setIfInBounds_toArray, List.set_cons_zero, List.set_cons_succ]
      refine h_pure 11 (some 47) (.int .i64 (x1 % 2)) rfl (by kernel_rfl) (by kernel_rfl) (by kernel_rfl) (by kernel_rfl) (fun _ _ _ h => h) (by kernel_rfl) (fun w hw => by go_simp) HSE2.out ?_
      simp only [Act.put, List.setIfInBounds_toArray, List.set_cons_zero, List.set_cons_succ]
      refine h_pure 12 (some 48) (.int .i64 at_) rfl (by kernel_rfl) (by kernel_rfl) (by kernel_rfl) (by kernel_rfl) (fun _ _ _ h => h) (by kernel_rfl) (fun w hw => by go_simp) HSE2.out ?_
      simp only [Act.put, List.setIfInBounds_toArray, List.set_cons_zero, List.set_cons_succ]
      refine h_pure 13 (some 49) (.bool q) rfl (by kernel_rfl) (by kernel_rfl) (by kernel_rfl) (by kernel_rfl) (fun _ _ _ h => h) (by kernel_rfl) (fun w hw => by go_simp) HSE2.out ?_
      simp only [Act.put, List.setIfInBounds_toArray, List.set_cons_zero, List.set_cons_succ]
      refine h_pure 14 (some 50) (.bool q) rfl (by kernel_rfl) (by kernel_rfl) (by kernel_rfl) (by kernel_rfl) (fun _ _ _ h => h) (by kernel_rfl) (fun w hw => by go_simp) HSE2.out ?_
      simp only [Act.put, List.setIfInBounds_toArray, List.set_cons_zero, List.set_cons_succ]
      refine h_store 15 34 (.tmp 4) (.tmp 36) w.heap.size X (by kernel_rfl) rfl (by kernel_rfl) (by kernel_rfl) (by kernel_rfl) (by kernel_rfl) (by kernel_rfl) 34 HSE2.out.old (by rw [HXS.out]; exact info_rec) HX1.out (fun W3 h1 h2 => HSE2.out.put h1 h2) ?_
      intro W3 hg3 hb3
      have HB3 := Lib.hid (HSE2.out.put hg3 hb3)
      refine h_pure 16 (some 5) (.bool q) rfl (by kernel_rfl) (by kernel_rfl) (by kernel_rfl) (by kernel_rfl) (fun _ _ _ h => h) (by kernel_rfl) (fun w hw => by go_simp) HB3.out ?_
      simp only [Act.put, List.setIfInBounds_toArray, List.set_cons_zero, List.set_cons_succ]
      refine wpAnyH_done (by kernel_rfl) ?_ _
      go_wp2_with fail
      exact bodyPost_ret (run_results_cell_tmp Tryz.results33 _ _ w.heap.size 34 X (0, 0) _ (.bool q) (by kernel_rfl) (by kernel_rfl) hb3 Tryz.underlying34 rfl (by rw [HXS.out]; exact info_rec)) (by kernel_rfl) ⟨xr, q, by rw [HXX.out], HBd.out, HYes.out, HG2.out.then_new hg3 (fun x e => by omega)⟩
set_option maxRecDepth 100000 in
set_option maxHeartbeats 4000000 in
theorem rRead_none (A : Option Addr) (s : List UInt8) (cap : Nat) (at_ : Nat) (w : World) (hr : Rd w A s) (h64 : s.length = 64) (hcap : 64 ≤ cap) (hm : cap ≤ maxLen) (ho : openL 1 s = none) :
    Calls Tryz.prog 33 #[.slice A 64 cap, .int .i64 at_] w fun e w' => ∃ x b, e = .returned (.tuple #[.agg (recA x), .bool b]) ∧ x.Bd ∧ rAt s at_ = (if b then some x else none) ∧ Chg Non w w' := by
  have HO := Lib.hid (fun W (hg : Chg Non w W) => rOpen 1 A s cap W (hr.non hg) h64 hcap hm)
  have HNo : Hid (rAt s at_ = none) := Lib.hid (by
    unfold rAt recRd
    rw [ho]
    simp)
  have HHo := Lib.hid ho
  clear hr ho
  go_enter Tryz.func33, Tryz.ntmps33
  go_wp2_with fail
  refine (HO.out _ ((Chg.refl Non w).alloc _)).mono ?_
  rintro e u ⟨hcase, hg⟩
  rcases hcase with ⟨A1, c1, m', ho', _⟩ | ⟨_, rfl⟩
  · rw [HHo.out] at ho'; cases ho'
  have hg0 : Chg Non w u := ((Chg.refl Non w).alloc _).then_non hg
  have HG0 := Lib.hid hg0
  have HZ := Lib.hid ((hg.block w.heap.size (by simp) (fun e => e)).trans (heap_alloc_new _ _))
  clear hg hg0 HO
  go_wp2_with (first
    | (refine sel (some 17) (.build 34 #[]) ?_
       refine wpList_pure rfl (some 17) (.agg recZ) rfl (by kernel_rfl) ?_)
    | (refine sel none (.store 34 (.tmp 4) (.tmp 17)) ?_
       refine wpList_store_rowA rfl 34 (.tmp 4) (.tmp 17) rfl w.heap.size recZ rfl rfl 34 _ HZ.out (by rw [recZ_size]; exact info_rec) (by rw [recZ_size]; rfl) recZ_one ?_
       intro W hgW hbW
       have HBW := Lib.hid hbW
       have HGW := Lib.hid (HG0.out.then_new hgW (fun x e => by omega))
       clear hgW hbW))
  exact bodyPost_ret (run_results_cell_tmp Tryz.results33 _ _ w.heap.size 34 recZ (0, 0) _ (.bool false) (by kernel_rfl) (by kernel_rfl) HBW.out Tryz.underlying34 rfl (by rw [recZ_size]; exact info_rec)) (by kernel_rfl) ⟨Rec.zero, false, rfl, zero_bd, HNo.out, HGW.out⟩
theorem rRead (A : Option Addr) (s : List UInt8) (cap : Nat) (at_ : Nat) (hat : at_ ≤ 1) (w : World) (hr : Rd w A s) (h64 : s.length = 64) (hcap : 64 ≤ cap) (hm : cap ≤ maxLen) :
    Calls Tryz.prog 33 #[.slice A 64 cap, .int .i64 at_] w fun e w' => ∃ x b, e = .returned (.tuple #[.agg (recA x), .bool b]) ∧ x.Bd ∧ rAt s at_ = (if b then some x else none) ∧ Chg Non w w' := by
  cases ho : openL 1 s with
  | none => exact rRead_none A s cap at_ w hr h64 hcap hm ho
  | some m =>
    refine rRead_some A s m cap at_ hat w hr h64 hcap hm ho ?_
    unfold openL at ho
    split at ho
    · injection ho with ho
      rw [← ho, List.length_take, List.length_drop]
      omega
    · cases ho
end Go.Proofs.YtgmpacndjmmgjaaGreat
end
section
namespace Go.Proofs.YtgmpacndjmmgjaaGreat
open Go.RowKit
set_option linter.unusedVariables false

/-- the places of the two records that are told -/
structure StG (g0 g1 : Nat) (W0 W : World) : Prop where
  chg : Chg (fun k => k = g0 ∨ k = g1) W0 W
  o0 : ∃ old : Array Value, W.heap[g0]? = some (.cells old 34 (0, 0)) ∧ old.size = 36
  o1 : ∃ old : Array Value, W.heap[g1]? = some (.cells old 34 (0, 0)) ∧ old.size = 36
namespace StG
variable {g0 g1 : Nat} {W0 W W' : World} {X : Array Value}
theorem put0 (h : StG g0 g1 W0 W) (hne : g0 ≠ g1) (hg : Chg (fun k => k = g0) W W') (hb : W'.heap[g0]? = some (.cells X 34 (0, 0))) (hx : X.size = 36) : StG g0 g1 W0 W' := by
  obtain ⟨h1, h2, ⟨old, h3, h4⟩⟩ := h
  exact ⟨h1.trans_same (hg.mono (fun x e => .inl e)), ⟨X, hb, hx⟩, ⟨old, (hg.block g1 (Array.getElem?_eq_some_iff.1 h3).1 (fun e => hne e.symm)).trans h3, h4⟩⟩
theorem put1 (h : StG g0 g1 W0 W) (hne : g0 ≠ g1) (hg : Chg (fun k => k = g1) W W') (hb : W'.heap[g1]? = some (.cells X 34 (0, 0))) (hx : X.size = 36) : StG g0 g1 W0 W' := by
  obtain ⟨h1, ⟨old, h3, h4⟩, h2⟩ := h
  exact ⟨h1.trans_same (hg.mono (fun x e => .inr e)), ⟨old, (hg.block g0 (Array.getElem?_eq_some_iff.1 h3).1 hne).trans h3, h4⟩, ⟨X, hb, hx⟩⟩
theorem range (h : StG g0 g1 W0 W) {b : Nat} {L : List Value} (hr : W0.rangeAt b 0 L) (h0 : b ≠ g0) (h1 : b ≠ g1) : W.rangeAt b 0 L := range_keep h.chg hr (fun e => by rcases e with e | e; exact h0 e; exact h1 e)
end StG
/-- what Get has made ahead of the first read -/
structure GZ (w W : World) : Prop where
  z0 : W.heap[w.heap.size]? = some (.cells recZ 34 (0, 0))
  z1 : W.heap[w.heap.size + 1]? = some (.cells recZ 34 (0, 0))
  z2 : W.heap[w.heap.size + 1 + 1]? = some (.cells recZ 34 (0, 0))
  chg : Chg Non w W
namespace GZ
variable {w W W' : World}
theorem non (h : GZ w W) (hg : Chg Non W W') : GZ w W' := ⟨r5_blk hg h.z0, r5_blk hg h.z1, r5_blk hg h.z2, h.chg.then_non hg⟩
theorem lt (h : GZ w W) : w.heap.size + 1 + 1 < W.heap.size := (Array.getElem?_eq_some_iff.1 h.z2).1
theorem put (h : GZ w W) {g : Nat} (hg : Chg (fun k => k = g) W W') (hb : w.heap.size + 1 + 1 < g) : GZ w W' := by
  obtain ⟨a, b, c, d⟩ := h
  refine ⟨(hg.block _ (Array.getElem?_eq_some_iff.1 a).1 (by omega)).trans a, (hg.block _ (Array.getElem?_eq_some_iff.1 b).1 (by omega)).trans b, (hg.block _ (Array.getElem?_eq_some_iff.1 c).1 (by omega)).trans c, d.then_new hg (fun x e => by omega)⟩
theorem stG (h : GZ w W) : StG w.heap.size (w.heap.size + 1) W.drew W.drew := ⟨Chg.refl _ _, ⟨recZ, h.z0, recZ_size⟩, ⟨recZ, h.z1, recZ_size⟩⟩
theorem range (h : GZ w W) : W.drew.rangeAt (w.heap.size + 1 + 1) 0 recZ.toList := range_block h.z2
end GZ
theorem range_drew {W : World} {b : Nat} {X : Array Value} (h : W.heap[b]? = some (.cells X 34 (0, 0))) : W.drew.rangeAt b 0 X.toList := range_block (w := W.drew) h

theorem heap_alloc3_new (w : World) (o1 o2 o3 : Obj) : (((w.alloc o1).alloc o2).alloc o3).heap[w.heap.size + 1 + 1]? = some o3 := by
  have := heap_alloc_new ((w.alloc o1).alloc o2) o3
  simpa using this
set_option maxRecDepth 100000 in
set_option maxHeartbeats 4000000 in
theorem rGet_down (B p q : Nat) (E : Rk) (w : World) (h : IsRk B p q w E) (hd : E.down = true) :
    Calls Tryz.prog 12 #[.pointer (some ⟨p, 0, none⟩)] w fun e w' => e = .returned (.tuple #[.agg recZ, .agg recZ, .int .i64 60]) ∧ Chg Non w w' := by
  have HR := Lib.hid (fun W (hg : Chg Non w W) => rRead_down B p q E 0 W (h.non hg) hd)
  clear h hd
  go_enter Tryz.func12, Tryz.ntmps12
  go_wp2_with (first
    | (refine sel (some 14) (.build 34 #[]) ?_
       refine wpList_pure rfl (some 14) (.agg recZ) rfl (by kernel_rfl) ?_)
    | (refine sel none (.store 34 (.tmp 5) (.tmp 14)) ?_
       refine wpList_store_rowA rfl 34 (.tmp 5) (.tmp 14) rfl (w.heap.size + 1 + 1) recZ rfl rfl 34 _ (heap_alloc3_new w _ _ _) (by rw [recZ_size]; exact info_rec) (by rw [recZ_size]; rfl) recZ_one ?_
       intro W1 hg1 hb1
       have HGZ : Hid (GZ w W1) := Lib.hid ⟨(hg1.block _ (by simp; omega) (by omega)).trans (by rw [Below.heap_alloc _ _ _ (by simp; omega)]; exact heap_alloc2_old _ _ _), (hg1.block _ (by simp) (by omega)).trans (by rw [Below.heap_alloc _ _ _ (by simp)]; exact heap_alloc2_new _ _ _), hb1, ((((Chg.refl Non w).alloc _).alloc _).alloc _).then_new hg1 (fun x e => by omega)⟩
       clear hg1 hb1))
  refine (HR.out _ HGZ.out.chg).mono ?_
  rintro e v ⟨rfl, rfl⟩
  have HGv := HGZ
  have HSt := Lib.hid (HGv.out.stG : StG w.heap.size (w.heap.size + 1) W1.drew W1.drew)
  have HRa : Hid (W1.drew.rangeAt (w.heap.size + 1 + 1) 0 recZ.toList) := Lib.hid HGv.out.range
  have HRb : Hid (W1.drew.rangeAt (w.heap.size + 1 + 1) 0 recZ.toList) := Lib.hid HGv.out.range
  go_wp2_with fail
  refine wp_region_held_drew (S := StG w.heap.size (w.heap.size + 1) W1.drew) (by kernel_rfl) HSt.out (fun hHeld => ?_)
  clear hHeld
  refine h_load 0 (some 22) 34 (.tmp 5) (w.heap.size + 1 + 1) 0 recZ _ rfl (by kernel_rfl) (by kernel_rfl) (by kernel_rfl) (by kernel_rfl) (by kernel_rfl) (fun _ _ _ h => h) (by kernel_rfl) (by kernel_rfl) (fun w h => h.range HRa.out (by omega) (by omega)) Tryz.underlying34 rfl (by rw [recZ_size]; exact info_rec) HSt.out ?_
  simp only [Act.put, List.setIfInBounds_toArray, List.set_cons_zero, List.set_cons_succ]
  refine h_load 1 (some 23) 34 (.tmp 5) (w.heap.size + 1 + 1) 0 recZ _ rfl (by kernel_rfl) (by kernel_rfl) (by kernel_rfl) (by kernel_rfl) (by kernel_rfl) (fun _ _ _ h => h) (by kernel_rfl) (by kernel_rfl) (fun w h => h.range HRb.out (by omega) (by omega)) Tryz.underlying34 rfl (by rw [recZ_size]; exact info_rec) HSt.out ?_
  simp only [Act.put, List.setIfInBounds_toArray, List.set_cons_zero, List.set_cons_succ]
  refine h_pure 2 (some 24) (.int .i64 60) rfl (by kernel_rfl) (by kernel_rfl) (by kernel_rfl) (by kernel_rfl) (fun _ _ _ h => h) (by kernel_rfl) (fun w hw => by go_simp) HSt.out ?_
  simp only [Act.put, List.setIfInBounds_toArray, List.set_cons_zero, List.set_cons_succ]
  refine h_store 3 34 (.tmp 2) (.tmp 22) w.heap.size recZ (by kernel_rfl) rfl (by kernel_rfl) (by kernel_rfl) (by kernel_rfl) (by kernel_rfl) (by kernel_rfl) 34 (by rw [recZ_size]; exact HSt.out.o0) (by rw [recZ_size]; exact info_rec) recZ_one (fun W3 h1 h2 => HSt.out.put0 (by omega) h1 h2 recZ_size) ?_
  intro W3 hg3 hb3
  have HS3 := Lib.hid (HSt.out.put0 (by omega) hg3 hb3 recZ_size)
  refine h_store 4 34 (.tmp 3) (.tmp 23) (w.heap.size + 1) recZ (by kernel_rfl) rfl (by kernel_rfl) (by kernel_rfl) (by kernel_rfl) (by kernel_rfl) (by kernel_rfl) 34 (by rw [recZ_size]; exact HS3.out.o1) (by rw [recZ_size]; exact info_rec) recZ_one (fun W4 h1 h2 => HS3.out.put1 (by omega) h1 h2 recZ_size) ?_
  intro W4 hg4 hb4
  have HS4 := Lib.hid (HS3.out.put1 (by omega) hg4 hb4 recZ_size)
  refine h_pure 5 (some 4) (.int .i64 60) rfl (by kernel_rfl) (by kernel_rfl) (by kernel_rfl) (by kernel_rfl) (fun _ _ _ h => h) (by kernel_rfl) (fun w hw => by go_simp) HS4.out ?_
  simp only [Act.put, List.setIfInBounds_toArray, List.set_cons_zero, List.set_cons_succ]
  refine wpAnyH_done (by kernel_rfl) ?_ _
  go_wp2_with fail
  have hb34 := (hg4.block w.heap.size (Array.getElem?_eq_some_iff.1 hb3).1 (by omega)).trans hb3
  exact bodyPost_ret (run_results_cell2_tmp Tryz.results12 _ _ w.heap.size (w.heap.size + 1) 34 recZ recZ (0, 0) (0, 0) _ (.int .i64 60) (by kernel_rfl) (by kernel_rfl) (by kernel_rfl) hb34 hb4 Tryz.underlying34 rfl (by rw [recZ_size]; exact info_rec) (by rw [recZ_size]; exact info_rec)) (by kernel_rfl) ⟨rfl, (HGv.out.chg).drew.then_new HS4.out.chg (fun x e => by omega)⟩
set_option maxRecDepth 100000 in
set_option maxHeartbeats 4000000 in
theorem rGet_one (B p q : Nat) (E : Rk) (w : World) (h : IsRk B p q w E) (hd : E.down = false) (f0 : List UInt8) (c0 : Option (List UInt8)) (h0 : E.l[0]? = some (f0, c0)) (hl : E.l.length < 2) :
    Calls Tryz.prog 12 #[.pointer (some ⟨p, 0, none⟩)] w fun e w' => e = .returned (.tuple #[.agg recZ, .agg recZ, .int .i64 61]) ∧ Chg Non w w' := by
  have HR := Lib.hid (fun W (hg : Chg Non w W) => rRead_ok B p q E 0 f0 c0 W (h.non hg) hd h0)
  have HR1 := Lib.hid (fun W (hg : Chg Non w W) => rRead_no B p q E 1 W (h.non hg) hd (by omega) (by omega))
  clear h hd h0
  go_enter Tryz.func12, Tryz.ntmps12
  go_wp2_with (first
    | (refine sel (some 14) (.build 34 #[]) ?_
       refine wpList_pure rfl (some 14) (.agg recZ) rfl (by kernel_rfl) ?_)
    | (refine sel none (.store 34 (.tmp 5) (.tmp 14)) ?_
       refine wpList_store_rowA rfl 34 (.tmp 5) (.tmp 14) rfl (w.heap.size + 1 + 1) recZ rfl rfl 34 _ (heap_alloc3_new w _ _ _) (by rw [recZ_size]; exact info_rec) (by rw [recZ_size]; rfl) recZ_one ?_
       intro W1 hg1 hb1
       have HGZ : Hid (GZ w W1) := Lib.hid ⟨(hg1.block _ (by simp; omega) (by omega)).trans (by rw [Below.heap_alloc _ _ _ (by simp; omega)]; exact heap_alloc2_old _ _ _), (hg1.block _ (by simp) (by omega)).trans (by rw [Below.heap_alloc _ _ _ (by simp)]; exact heap_alloc2_new _ _ _), hb1, ((((Chg.refl Non w).alloc _).alloc _).alloc _).then_new hg1 (fun x e => by omega)⟩
       clear hg1 hb1))
  refine (HR.out _ HGZ.out.chg).mono ?_
  rintro e v ⟨A1, k1, rfl, hk1, hm1, hl1, ho1, hg1⟩
  have HGv := Lib.hid (HGZ.out.non hg1)
  clear ho1 hg1 hk1 hm1 hl1
  go_wp2_with fail
  refine (HR1.out _ HGv.out.chg).mono ?_
  rintro e v2 ⟨rfl, rfl⟩
  have HSt := Lib.hid (HGv.out.stG : StG w.heap.size (w.heap.size + 1) v.drew v.drew)
  have HRa : Hid (v.drew.rangeAt (w.heap.size + 1 + 1) 0 recZ.toList) := Lib.hid HGv.out.range
  have HRb : Hid (v.drew.rangeAt (w.heap.size + 1 + 1) 0 recZ.toList) := Lib.hid HGv.out.range
  go_wp2_with fail
  refine wp_region_held_drew (S := StG w.heap.size (w.heap.size + 1) v.drew) (by kernel_rfl) HSt.out (fun hHeld => ?_)
  clear hHeld
  refine h_load 0 (some 32) 34 (.tmp 5) (w.heap.size + 1 + 1) 0 recZ _ rfl (by kernel_rfl) (by kernel_rfl) (by kernel_rfl) (by kernel_rfl) (by kernel_rfl) (fun _ _ _ h => h) (by kernel_rfl) (by kernel_rfl) (fun w h => h.range HRa.out (by omega) (by omega)) Tryz.underlying34 rfl (by rw [recZ_size]; exact info_rec) HSt.out ?_
  simp only [Act.put, List.setIfInBounds_toArray, List.set_cons_zero, List.set_cons_succ]
  refine h_load 1 (some 33) 34 (.tmp 5) (w.heap.size + 1 + 1) 0 recZ _ rfl (by kernel_rfl) (by kernel_rfl) (by kernel_rfl) (by kernel_rfl) (by kernel_rfl) (fun _ _ _ h => h) (by kernel_rfl) (by kernel_rfl) (fun w h => h.range HRb.out (by omega) (by omega)) Tryz.underlying34 rfl (by rw [recZ_size]; exact info_rec) HSt.out ?_
  simp only [Act.put, List.setIfInBounds_toArray, List.set_cons_zero, List.set_cons_succ]
  refine h_pure 2 (some 34) (.int .i64 61) rfl (by kernel_rfl) (by kernel_rfl) (by kernel_rfl) (by kernel_rfl) (fun _ _ _ h => h) (by kernel_rfl) (fun w hw => by go_simp) HSt.out ?_
  simp only [Act.put, List.setIfInBounds_toArray, List.set_cons_zero, List.set_cons_succ]
  refine h_store 3 34 (.tmp 2) (.tmp 32) w.heap.size recZ (by kernel_rfl) rfl (by kernel_rfl) (by kernel_rfl) (by kernel_rfl) (by kernel_rfl) (by kernel_rfl) 34 (by rw [recZ_size]; exact HSt.out.o0) (by rw [recZ_size]; exact info_rec) recZ_one (fun W3 h1 h2 => HSt.out.put0 (by omega) h1 h2 recZ_size) ?_
  intro W3 hg3 hb3
  have HS3 := Lib.hid (HSt.out.put0 (by omega) hg3 hb3 recZ_size)
  refine h_store 4 34 (.tmp 3) (.tmp 33) (w.heap.size + 1) recZ (by kernel_rfl) rfl (by kernel_rfl) (by kernel_rfl) (by kernel_rfl) (by kernel_rfl) (by kernel_rfl) 34 (by rw [recZ_size]; exact HS3.out.o1) (by rw [recZ_size]; exact info_rec) recZ_one (fun W4 h1 h2 => HS3.out.put1 (by omega) h1 h2 recZ_size) ?_
  intro W4 hg4 hb4
  have HS4 := Lib.hid (HS3.out.put1 (by omega) hg4 hb4 recZ_size)
  refine h_pure 5 (some 4) (.int .i64 61) rfl (by kernel_rfl) (by kernel_rfl) (by kernel_rfl) (by kernel_rfl) (fun _ _ _ h => h) (by kernel_rfl) (fun w hw => by go_simp) HS4.out ?_
  simp only [Act.put, List.setIfInBounds_toArray, List.set_cons_zero, List.set_cons_succ]
  refine wpAnyH_done (by kernel_rfl) ?_ _
  go_wp2_with fail
  have hb34 := (hg4.block w.heap.size (Array.getElem?_eq_some_iff.1 hb3).1 (by omega)).trans hb3
  exact bodyPost_ret (run_results_cell2_tmp Tryz.results12 _ _ w.heap.size (w.heap.size + 1) 34 recZ recZ (0, 0) (0, 0) _ (.int .i64 61) (by kernel_rfl) (by kernel_rfl) (by kernel_rfl) hb34 hb4 Tryz.underlying34 rfl (by rw [recZ_size]; exact info_rec) (by rw [recZ_size]; exact info_rec)) (by kernel_rfl) ⟨rfl, (HGv.out.chg).drew.then_new HS4.out.chg (fun x e => by omega)⟩
set_option maxRecDepth 100000 in
set_option maxHeartbeats 4000000 in
theorem rGet_two (B p q : Nat) (E : Rk) (w : World) (h : IsRk B p q w E) (hd : E.down = false) (f0 f1 : List UInt8) (c0 c1 : Option (List UInt8)) (h0 : E.l[0]? = some (f0, c0)) (h1 : E.l[1]? = some (f1, c1)) :
    Calls Tryz.prog 12 #[.pointer (some ⟨p, 0, none⟩)] w fun e w' => e = .returned (.tuple #[.agg (recA (rTell (rAt (c0.getD f0) 0) (rAt (c1.getD f1) 1)).1), .agg (recA (rTell (rAt (c0.getD f0) 0) (rAt (c1.getD f1) 1)).2.1), .int .i64 (rTell (rAt (c0.getD f0) 0) (rAt (c1.getD f1) 1)).2.2]) ∧ Chg Non w w' := by
  have HR := Lib.hid (fun W (hg : Chg Non w W) => rRead_ok B p q E 0 f0 c0 W (h.non hg) hd h0)
  have HR1 := Lib.hid (fun W (hg : Chg Non w W) => rRead_ok B p q E 1 f1 c1 W (h.non hg) hd h1)
  obtain ⟨s0, hs0⟩ : ∃ s, c0.getD f0 = s := ⟨_, rfl⟩
  obtain ⟨s1, hs1⟩ : ∃ s, c1.getD f1 = s := ⟨_, rfl⟩
  simp only [hs0, hs1] at HR HR1 ⊢
  obtain ⟨T, hT⟩ : ∃ T, rTell (rAt s0 0) (rAt s1 1) = T := ⟨_, rfl⟩
  have HTt := Lib.hid hT
  rw [hT]
  clear h hd h0 h1 hs0 hs1 hT
  go_enter Tryz.func12, Tryz.ntmps12
  go_wp2_with (first
    | (refine sel (some 14) (.build 34 #[]) ?_
       refine wpList_pure rfl (some 14) (.agg recZ) rfl (by kernel_rfl) ?_)
    | (refine sel none (.store 34 (.tmp 5) (.tmp 14)) ?_
       refine wpList_store_rowA rfl 34 (.tmp 5) (.tmp 14) rfl (w.heap.size + 1 + 1) recZ rfl rfl 34 _ (heap_alloc3_new w _ _ _) (by rw [recZ_size]; exact info_rec) (by rw [recZ_size]; rfl) recZ_one ?_
       intro W1 hg1 hb1
       have HGZ : Hid (GZ w W1) := Lib.hid ⟨(hg1.block _ (by simp; omega) (by omega)).trans (by rw [Below.heap_alloc _ _ _ (by simp; omega)]; exact heap_alloc2_old _ _ _), (hg1.block _ (by simp) (by omega)).trans (by rw [Below.heap_alloc _ _ _ (by simp)]; exact heap_alloc2_new _ _ _), hb1, ((((Chg.refl Non w).alloc _).alloc _).alloc _).then_new hg1 (fun x e => by omega)⟩
       clear hg1 hb1))
  refine (HR.out _ HGZ.out.chg).mono ?_
  rintro e v ⟨A1, k1, rfl, hk1, hm1, hl1, ho1, hg1⟩
  have HGv := Lib.hid (HGZ.out.non hg1)
  have HO1 := Lib.hid ho1.rd
  have HK1 := Lib.hid (And.intro hk1 (And.intro hm1 hl1))
  clear ho1 hg1 hk1 hm1 hl1
  go_wp2_with fail
  refine (HR1.out _ HGv.out.chg).mono ?_
  rintro e v2 ⟨A2, k2, rfl, hk1, hm1, hl1, ho1, hg1⟩
  have HGv := Lib.hid (HGv.out.non hg1)
  have HO1 := Lib.hid (HO1.out.non hg1)
  have HO2 := Lib.hid ho1.rd
  have HK2 := Lib.hid (And.intro hk1 (And.intro hm1 hl1))
  clear ho1 hg1 hk1 hm1 hl1
  go_wp2_with fail
  refine (rRead A1 s0 k1 0 (by omega) v2 HO1.out HK1.out.2.2 HK1.out.1 HK1.out.2.1).mono ?_
  rintro e v3 ⟨x, b0, rfl, hxb, hat0, hg1⟩
  have HGv := Lib.hid (HGv.out.non hg1)
  have HO2 := Lib.hid (HO2.out.non hg1)
  have HXS := Lib.hid (recA_size x hxb.1)
  have HXO := Lib.hid (recA_one x)
  have HX0 := Lib.hid (recA_0 x)
  have HXB := Lib.hid hxb
  have HA0 := Lib.hid hat0
  obtain ⟨X, hX⟩ : ∃ X, recA x = X := ⟨_, rfl⟩
  rw [hX] at HXS HXO HX0 ⊢
  have HXX := Lib.hid hX
  clear hg1 hxb hat0 hX
  have hlt3 := HGv.out.lt
  go_wp2_with (first
    | (refine sel none (.store 34 (.tmp 10) (.tmp 38)) ?_
       refine wpList_store_rowA rfl 34 (.tmp 10) (.tmp 38) rfl v3.heap.size X rfl rfl 34 _ (heap_alloc_new _ _) (by rw [HXS.out]; exact info_rec) (by rw [HXS.out]; rfl) HXO.out ?_
       intro v4 hg4 hb4
       have HGv := Lib.hid ((HGv.out.non ((Chg.refl Non v3).alloc _)).put hg4 (by omega))
       have HO2 := Lib.hid (HO2.out.non (((Chg.refl Non v3).alloc _).then_new hg4 (fun x e => by omega)))
       have HB4 := Lib.hid hb4
       clear hg4 hb4))
  refine (rRead A2 s1 k2 1 (by omega) v4 HO2.out HK2.out.2.2 HK2.out.1 HK2.out.2.1).mono ?_
  rintro e v5 ⟨y, b1, rfl, hyb, hat1, hg1⟩
  have HGv := Lib.hid (HGv.out.non hg1)
  have HB5 := Lib.hid (r5_blk hg1 HB4.out)
  have HYS := Lib.hid (recA_size y hyb.1)
  have HYO := Lib.hid (recA_one y)
  have HY0 := Lib.hid (recA_0 y)
  have HYB := Lib.hid hyb
  have HA1 := Lib.hid hat1
  obtain ⟨Y, hY⟩ : ∃ Y, recA y = Y := ⟨_, rfl⟩
  rw [hY] at HYS HYO HY0 ⊢
  have HYY := Lib.hid hY
  clear hg1 hyb hat1 hY HB4
  have hlt5 := HGv.out.lt
  have hlt35 : v3.heap.size < v5.heap.size := (Array.getElem?_eq_some_iff.1 HB5.out).1
  have hzz : Rec.zero.hash.length = 32 := zTag_len
  obtain ⟨b, hb⟩ : ∃ b, v3.heap.size = b := ⟨_, rfl⟩
  rw [hb] at HB5 hlt35 hlt3 ⊢
  clear hb
  cases b0 with
  | false =>
    have HAA0 : Hid (rAt s0 0 = none) := Lib.hid HA0.out
    cases b1 with
    | false =>
      have ha1 : rAt s1 1 = none := HA1.out
      have HTv : Hid (T = (Rec.zero, Rec.zero, 160)) := Lib.hid (by rw [← HTt.out, HAA0.out, ha1]; rfl)
      clear ha1
      go_wp2_with (first
        | (refine sel none (.store 34 (.tmp 12) (.tmp 43)) ?_
           refine wpList_store_rowA rfl 34 (.tmp 12) (.tmp 43) rfl v5.heap.size Y rfl rfl 34 _ (heap_alloc_new _ _) (by rw [HYS.out]; exact info_rec) (by rw [HYS.out]; rfl) HYO.out ?_
           intro v6 hg6 hb6
           have HGv := Lib.hid ((HGv.out.non ((Chg.refl Non v5).alloc _)).put hg6 (by omega))
           have HB5 := Lib.hid ((hg6.block b (by simp; omega) (by omega)).trans (r5_blk ((Chg.refl Non v5).alloc _) HB5.out))
           have HB6 := Lib.hid hb6
           have k10 : v6.cell? ⟨b, 0, none⟩ = some (.int .i64 x.seqn) := by rw [cell_of_row _ _ _ _ _ _ HB5.out]; exact HX0.out
           have k12 : v6.cell? ⟨v5.heap.size, 0, none⟩ = some (.int .i64 y.seqn) := by rw [cell_of_row _ _ _ _ _ _ hb6]; exact HY0.out
           clear hg6 hb6))
      have HSt := Lib.hid (HGv.out.stG : StG w.heap.size (w.heap.size + 1) v6.drew v6.drew)
      have HRa : Hid (v6.drew.rangeAt (w.heap.size + 1 + 1) 0 recZ.toList) := Lib.hid HGv.out.range
      have HRb : Hid (v6.drew.rangeAt (w.heap.size + 1 + 1) 0 recZ.toList) := Lib.hid HGv.out.range
      refine wp_region_held_drew (S := StG w.heap.size (w.heap.size + 1) v6.drew) (by kernel_rfl) HSt.out (fun hHeld => ?_)
      clear hHeld
      refine h_load 0 (some 52) 34 (.tmp 5) (w.heap.size + 1 + 1) 0 recZ _ rfl (by kernel_rfl) (by kernel_rfl) (by kernel_rfl) (by kernel_rfl) (by kernel_rfl) (fun _ _ _ h => h) (by kernel_rfl) (by kernel_rfl) (fun w h => h.range HRa.out (by omega) (by omega)) Tryz.underlying34 rfl (by rw [recZ_size]; exact info_rec) HSt.out ?_
      simp only [Act.put, List.setIfInBounds_toArray, List.set_cons_zero, List.set_cons_succ]
      refine h_load 1 (some 53) 34 (.tmp 5) (w.heap.size + 1 + 1) 0 recZ _ rfl (by kernel_rfl) (by kernel_rfl) (by kernel_rfl) (by kernel_rfl) (by kernel_rfl) (fun _ _ _ h => h) (by kernel_rfl) (by kernel_rfl) (fun w h => h.range HRb.out (by omega) (by omega)) Tryz.underlying34 rfl (by rw [recZ_size]; exact info_rec) HSt.out ?_
      simp only [Act.put, List.setIfInBounds_toArray, List.set_cons_zero, List.set_cons_succ]
      refine h_store 2 34 (.tmp 2) (.tmp 52) w.heap.size recZ (by kernel_rfl) rfl (by kernel_rfl) (by kernel_rfl) (by kernel_rfl) (by kernel_rfl) (by kernel_rfl) 34 (by rw [recZ_size]; exact HSt.out.o0) (by rw [recZ_size]; exact info_rec) recZ_one (fun W3 h1 h2 => HSt.out.put0 (by omega) h1 h2 recZ_size) ?_
      intro W3 hg3 hb3
      have HS3 := Lib.hid (HSt.out.put0 (by omega) hg3 hb3 recZ_size)
      refine h_store 3 34 (.tmp 3) (.tmp 53) (w.heap.size + 1) recZ (by kernel_rfl) rfl (by kernel_rfl) (by kernel_rfl) (by kernel_rfl) (by kernel_rfl) (by kernel_rfl) 34 (by rw [recZ_size]; exact HS3.out.o1) (by rw [recZ_size]; exact info_rec) recZ_one (fun W4 h1 h2 => HS3.out.put1 (by omega) h1 h2 recZ_size) ?_
      intro W4 hg4 hb4
      have HS4 := Lib.hid (HS3.out.put1 (by omega) hg4 hb4 recZ_size)
      refine h_pure 4 (some 4) (.int .i64 160) rfl (by kernel_rfl) (by kernel_rfl) (by kernel_rfl) (by kernel_rfl) (fun _ _ _ h => h) (by kernel_rfl) (fun w hw => by go_simp) HS4.out ?_
      simp only [Act.put, List.setIfInBounds_toArray, List.set_cons_zero, List.set_cons_succ]
      refine wpAnyH_done (by kernel_rfl) ?_ _
      go_wp2_with fail
      have hb34 := (hg4.block w.heap.size (Array.getElem?_eq_some_iff.1 hb3).1 (by omega)).trans hb3
      exact bodyPost_ret (run_results_cell2_tmp Tryz.results12 _ _ w.heap.size (w.heap.size + 1) 34 recZ recZ (0, 0) (0, 0) _ (.int .i64 160) (by kernel_rfl) (by kernel_rfl) (by kernel_rfl) hb34 hb4 Tryz.underlying34 rfl (by rw [recZ_size]; exact info_rec) (by rw [recZ_size]; exact info_rec)) (by kernel_rfl) ⟨(by rw [HTv.out]; rfl), (HGv.out.chg).drew.then_new HS4.out.chg (fun x e => by omega)⟩
    | true =>
      have ha1 : rAt s1 1 = some y := HA1.out
      have HTv : Hid (T = (y, Rec.zero, 0)) := Lib.hid (by rw [← HTt.out, HAA0.out, ha1]; rfl)
      clear ha1
      go_wp2_with (first
        | (refine sel none (.store 34 (.tmp 12) (.tmp 43)) ?_
           refine wpList_store_rowA rfl 34 (.tmp 12) (.tmp 43) rfl v5.heap.size Y rfl rfl 34 _ (heap_alloc_new _ _) (by rw [HYS.out]; exact info_rec) (by rw [HYS.out]; rfl) HYO.out ?_
           intro v6 hg6 hb6
           have HGv := Lib.hid ((HGv.out.non ((Chg.refl Non v5).alloc _)).put hg6 (by omega))
           have HB5 := Lib.hid ((hg6.block b (by simp; omega) (by omega)).trans (r5_blk ((Chg.refl Non v5).alloc _) HB5.out))
           have HB6 := Lib.hid hb6
           have k10 : v6.cell? ⟨b, 0, none⟩ = some (.int .i64 x.seqn) := by rw [cell_of_row _ _ _ _ _ _ HB5.out]; exact HX0.out
           have k12 : v6.cell? ⟨v5.heap.size, 0, none⟩ = some (.int .i64 y.seqn) := by rw [cell_of_row _ _ _ _ _ _ hb6]; exact HY0.out
           clear hg6 hb6))
      have HSt := Lib.hid (HGv.out.stG : StG w.heap.size (w.heap.size + 1) v6.drew v6.drew)
      have HRa : Hid (v6.drew.rangeAt v5.heap.size 0 Y.toList) := Lib.hid (range_drew HB6.out)
      have HRb : Hid (v6.drew.rangeAt (w.heap.size + 1 + 1) 0 recZ.toList) := Lib.hid HGv.out.range
      refine wp_region_held_drew (S := StG w.heap.size (w.heap.size + 1) v6.drew) (by kernel_rfl) HSt.out (fun hHeld => ?_)
      clear hHeld
      refine h_load 0 (some 62) 34 (.tmp 12) v5.heap.size 0 Y _ rfl (by kernel_rfl) (by kernel_rfl) (by kernel_rfl) (by kernel_rfl) (by kernel_rfl) (fun _ _ _ h => h) (by kernel_rfl) (by kernel_rfl) (fun w h => h.range HRa.out (by omega) (by omega)) Tryz.underlying34 rfl (by rw [HYS.out]; exact info_rec) HSt.out ?_
      simp only [Act.put, List.setIfInBounds_toArray, List.set_cons_zero, List.set_cons_succ]
      refine h_load 1 (some 63) 34 (.tmp 5) (w.heap.size + 1 + 1) 0 recZ _ rfl (by kernel_rfl) (by kernel_rfl) (by kernel_rfl) (by kernel_rfl) (by kernel_rfl) (fun _ _ _ h => h) (by kernel_rfl) (by kernel_rfl) (fun w h => h.range HRb.out (by omega) (by omega)) Tryz.underlying34 rfl (by rw [recZ_size]; exact info_rec) HSt.out ?_
      simp only [Act.put, List.setIfInBounds_toArray, List.set_cons_zero, List.set_cons_succ]
      refine h_store 2 34 (.tmp 2) (.tmp 62) w.heap.size Y (by kernel_rfl) rfl (by kernel_rfl) (by kernel_rfl) (by kernel_rfl) (by kernel_rfl) (by kernel_rfl) 34 (by rw [HYS.out]; exact HSt.out.o0) (by rw [HYS.out]; exact info_rec) HYO.out (fun W3 h1 h2 => HSt.out.put0 (by omega) h1 h2 HYS.out) ?_
      intro W3 hg3 hb3
      have HS3 := Lib.hid (HSt.out.put0 (by omega) hg3 hb3 HYS.out)
      refine h_store 3 34 (.tmp 3) (.tmp 63) (w.heap.size + 1) recZ (by kernel_rfl) rfl (by kernel_rfl) (by kernel_rfl) (by kernel_rfl) (by kernel_rfl) (by kernel_rfl) 34 (by rw [recZ_size]; exact HS3.out.o1) (by rw [recZ_size]; exact info_rec) recZ_one (fun W4 h1 h2 => HS3.out.put1 (by omega) h1 h2 recZ_size) ?_
      intro W4 hg4 hb4
      have HS4 := Lib.hid (HS3.out.put1 (by omega) hg4 hb4 recZ_size)
      refine h_pure 4 (some 4) (.int .i64 0) rfl (by kernel_rfl) (by kernel_rfl) (by kernel_rfl) (by kernel_rfl) (fun _ _ _ h => h) (by kernel_rfl) (fun w hw => by go_simp) HS4.out ?_
      simp only [Act.put, List.setIfInBounds_toArray, List.set_cons_zero, List.set_cons_succ]
      refine wpAnyH_done (by kernel_rfl) ?_ _
      go_wp2_with fail
      have hb34 := (hg4.block w.heap.size (Array.getElem?_eq_some_iff.1 hb3).1 (by omega)).trans hb3
      exact bodyPost_ret (run_results_cell2_tmp Tryz.results12 _ _ w.heap.size (w.heap.size + 1) 34 Y recZ (0, 0) (0, 0) _ (.int .i64 0) (by kernel_rfl) (by kernel_rfl) (by kernel_rfl) hb34 hb4 Tryz.underlying34 rfl (by rw [HYS.out]; exact info_rec) (by rw [recZ_size]; exact info_rec)) (by kernel_rfl) ⟨(by rw [HTv.out, ← HYY.out]; rfl), (HGv.out.chg).drew.then_new HS4.out.chg (fun x e => by omega)⟩
  | true =>
    have HAA0 : Hid (rAt s0 0 = some x) := Lib.hid HA0.out
    cases b1 with
    | false =>
      have ha1 : rAt s1 1 = none := HA1.out
      have HTv : Hid (T = (x, Rec.zero, 0)) := Lib.hid (by rw [← HTt.out, HAA0.out, ha1]; rfl)
      clear ha1
      go_wp2_with (first
        | (refine sel none (.store 34 (.tmp 12) (.tmp 43)) ?_
           refine wpList_store_rowA rfl 34 (.tmp 12) (.tmp 43) rfl v5.heap.size Y rfl rfl 34 _ (heap_alloc_new _ _) (by rw [HYS.out]; exact info_rec) (by rw [HYS.out]; rfl) HYO.out ?_
           intro v6 hg6 hb6
           have HGv := Lib.hid ((HGv.out.non ((Chg.refl Non v5).alloc _)).put hg6 (by omega))
           have HB5 := Lib.hid ((hg6.block b (by simp; omega) (by omega)).trans (r5_blk ((Chg.refl Non v5).alloc _) HB5.out))
           have HB6 := Lib.hid hb6
           have k10 : v6.cell? ⟨b, 0, none⟩ = some (.int .i64 x.seqn) := by rw [cell_of_row _ _ _ _ _ _ HB5.out]; exact HX0.out
           have k12 : v6.cell? ⟨v5.heap.size, 0, none⟩ = some (.int .i64 y.seqn) := by rw [cell_of_row _ _ _ _ _ _ hb6]; exact HY0.out
           clear hg6 hb6))
      have HSt := Lib.hid (HGv.out.stG : StG w.heap.size (w.heap.size + 1) v6.drew v6.drew)
      have HRa : Hid (v6.drew.rangeAt b 0 X.toList) := Lib.hid (range_drew HB5.out)
      have HRb : Hid (v6.drew.rangeAt (w.heap.size + 1 + 1) 0 recZ.toList) := Lib.hid HGv.out.range
      refine wp_region_held_drew (S := StG w.heap.size (w.heap.size + 1) v6.drew) (by kernel_rfl) HSt.out (fun hHeld => ?_)
      clear hHeld
      refine h_load 0 (some 57) 34 (.tmp 10) b 0 X _ rfl (by kernel_rfl) (by kernel_rfl) (by kernel_rfl) (by kernel_rfl) (by kernel_rfl) (fun _ _ _ h => h) (by kernel_rfl) (by kernel_rfl) (fun w h => h.range HRa.out (by omega) (by omega)) Tryz.underlying34 rfl (by rw [HXS.out]; exact info_rec) HSt.out ?_
      simp only [Act.put, List.setIfInBounds_toArray, List.set_cons_zero, List.set_cons_succ]
      refine h_load 1 (some 58) 34 (.tmp 5) (w.heap.size + 1 + 1) 0 recZ _ rfl (by kernel_rfl) (by kernel_rfl) (by kernel_rfl) (by kernel_rfl) (by kernel_rfl) (fun _ _ _ h => h) (by kernel_rfl) (by kernel_rfl) (fun w h => h.range HRb.out (by omega) (by omega)) Tryz.underlying34 rfl (by rw [recZ_size]; exact info_rec) HSt.out ?_
      simp only [Act.put, List.setIfInBounds_toArray, List.set_cons_zero, List.set_cons_succ]
      refine h_store 2 34 (.tmp 2) (.tmp 57) w.heap.size X (by kernel_rfl) rfl (by kernel_rfl) (by kernel_rfl) (by kernel_rfl) (by kernel_rfl) (by kernel_rfl) 34 (by rw [HXS.out]; exact HSt.out.o0) (by rw [HXS.out]; exact info_rec) HXO.out (fun W3 h1 h2 => HSt.out.put0 (by omega) h1 h2 HXS.out) ?_
      intro W3 hg3 hb3
      have HS3 := Lib.hid (HSt.out.put0 (by omega) hg3 hb3 HXS.out)
      refine h_store 3 34 (.tmp 3) (.tmp 58) (w.heap.size + 1) recZ (by kernel_rfl) rfl (by kernel_rfl) (by kernel_rfl) (by kernel_rfl) (by kernel_rfl) (by kernel_rfl) 34 (by rw [recZ_size]; exact HS3.out.o1) (by rw [recZ_size]; exact info_rec) recZ_one (fun W4 h1 h2 => HS3.out.put1 (by omega) h1 h2 recZ_size) ?_
      intro W4 hg4 hb4
      have HS4 := Lib.hid (HS3.out.put1 (by omega) hg4 hb4 recZ_size)
      refine h_pure 4 (some 4) (.int .i64 0) rfl (by kernel_rfl) (by kernel_rfl) (by kernel_rfl) (by kernel_rfl) (fun _ _ _ h => h) (by kernel_rfl) (fun w hw => by go_simp) HS4.out ?_
      simp only [Act.put, List.setIfInBounds_toArray, List.set_cons_zero, List.set_cons_succ]
      refine wpAnyH_done (by kernel_rfl) ?_ _
      go_wp2_with fail
      have hb34 := (hg4.block w.heap.size (Array.getElem?_eq_some_iff.1 hb3).1 (by omega)).trans hb3
      exact bodyPost_ret (run_results_cell2_tmp Tryz.results12 _ _ w.heap.size (w.heap.size + 1) 34 X recZ (0, 0) (0, 0) _ (.int .i64 0) (by kernel_rfl) (by kernel_rfl) (by kernel_rfl) hb34 hb4 Tryz.underlying34 rfl (by rw [HXS.out]; exact info_rec) (by rw [recZ_size]; exact info_rec)) (by kernel_rfl) ⟨(by rw [HTv.out, ← HXX.out]; rfl), (HGv.out.chg).drew.then_new HS4.out.chg (fun x e => by omega)⟩
    | true =>
      have ha1 : rAt s1 1 = some y := HA1.out
      obtain ⟨sx, hsx⟩ : ∃ sx, x.seqn = sx := ⟨_, rfl⟩
      obtain ⟨sy, hsy⟩ : ∃ sy, y.seqn = sy := ⟨_, rfl⟩
      have hT : T = if sx = wrap64 (sy + 1) then (x, y, 0) else if sy = wrap64 (sx + 1) then (y, x, 0) else if sy < sx then (x, Rec.zero, 0) else (y, Rec.zero, 0) := by rw [← HTt.out, HAA0.out, ha1, ← hsx, ← hsy]; rfl
      clear ha1
      rw [hsx] at HX0
      rw [hsy] at HY0
      have hwy : IntKind.i64.wrap (sy + 1) = wrap64 (sy + 1) := by rw [IntKind.wrap_i64]; unfold wrap64; omega
      have hwx : IntKind.i64.wrap (sx + 1) = wrap64 (sx + 1) := by rw [IntKind.wrap_i64]; unfold wrap64; omega
      obtain ⟨wy, hwy'⟩ : ∃ v, wrap64 (sy + 1) = v := ⟨_, rfl⟩
      obtain ⟨wx, hwx'⟩ : ∃ v, wrap64 (sx + 1) = v := ⟨_, rfl⟩
      rw [hwy'] at hwy hT
      rw [hwx'] at hwx hT
      clear hwx' hwy'
      by_cases e1 : sx = wy
      · have hb1 : (sx == wy) = true := by rw [beq_iff_eq]; exact e1
        rw [if_pos e1] at hT
        have HTv := Lib.hid hT
        clear hT
        clear e1
        go_wp2_with (first
          | (refine sel none (.store 34 (.tmp 12) (.tmp 43)) ?_
             refine wpList_store_rowA rfl 34 (.tmp 12) (.tmp 43) rfl v5.heap.size Y rfl rfl 34 _ (heap_alloc_new _ _) (by rw [HYS.out]; exact info_rec) (by rw [HYS.out]; rfl) HYO.out ?_
             intro v6 hg6 hb6
             have HGv := Lib.hid ((HGv.out.non ((Chg.refl Non v5).alloc _)).put hg6 (by omega))
             have HB5 := Lib.hid ((hg6.block b (by simp; omega) (by omega)).trans (r5_blk ((Chg.refl Non v5).alloc _) HB5.out))
             have HB6 := Lib.hid hb6
             have k10 : v6.cell? ⟨b, 0, none⟩ = some (.int .i64 sx) := by rw [cell_of_row _ _ _ _ _ _ HB5.out]; exact HX0.out
             have k12 : v6.cell? ⟨v5.heap.size, 0, none⟩ = some (.int .i64 sy) := by rw [cell_of_row _ _ _ _ _ _ hb6]; exact HY0.out
             clear hg6 hb6))
        have HSt := Lib.hid (HGv.out.stG : StG w.heap.size (w.heap.size + 1) v6.drew v6.drew)
        have HRa : Hid (v6.drew.rangeAt b 0 X.toList) := Lib.hid (range_drew HB5.out)
        have HRb : Hid (v6.drew.rangeAt v5.heap.size 0 Y.toList) := Lib.hid (range_drew HB6.out)
        refine wp_region_held_drew (S := StG w.heap.size (w.heap.size + 1) v6.drew) (by kernel_rfl) HSt.out (fun hHeld => ?_)
        clear hHeld
        refine h_load 0 (some 71) 34 (.tmp 10) b 0 X _ rfl (by kernel_rfl) (by kernel_rfl) (by kernel_rfl) (by kernel_rfl) (by kernel_rfl) (fun _ _ _ h => h) (by kernel_rfl) (by kernel_rfl) (fun w h => h.range HRa.out (by omega) (by omega)) Tryz.underlying34 rfl (by rw [HXS.out]; exact info_rec) HSt.out ?_
        simp only [Act.put, List.setIfInBounds_toArray, List.set_cons_zero, List.set_cons_succ]
        refine h_load 1 (some 72) 34 (.tmp 12) v5.heap.size 0 Y _ rfl (by kernel_rfl) (by kernel_rfl) (by kernel_rfl) (by kernel_rfl) (by kernel_rfl) (fun _ _ _ h => h) (by kernel_rfl) (by kernel_rfl) (fun w h => h.range HRb.out (by omega) (by omega)) Tryz.underlying34 rfl (by rw [HYS.out]; exact info_rec) HSt.out ?_
        simp only [Act.put, List.setIfInBounds_toArray, List.set_cons_zero, List.set_cons_succ]
        refine h_store 2 34 (.tmp 2) (.tmp 71) w.heap.size X (by kernel_rfl) rfl (by kernel_rfl) (by kernel_rfl) (by kernel_rfl) (by kernel_rfl) (by kernel_rfl) 34 (by rw [HXS.out]; exact HSt.out.o0) (by rw [HXS.out]; exact info_rec) HXO.out (fun W3 h1 h2 => HSt.out.put0 (by omega) h1 h2 HXS.out) ?_
        intro W3 hg3 hb3
        have HS3 := Lib.hid (HSt.out.put0 (by omega) hg3 hb3 HXS.out)
        refine h_store 3 34 (.tmp 3) (.tmp 72) (w.heap.size + 1) Y (by kernel_rfl) rfl (by kernel_rfl) (by kernel_rfl) (by kernel_rfl) (by kernel_rfl) (by kernel_rfl) 34 (by rw [HYS.out]; exact HS3.out.o1) (by rw [HYS.out]; exact info_rec) HYO.out (fun W4 h1 h2 => HS3.out.put1 (by omega) h1 h2 HYS.out) ?_
        intro W4 hg4 hb4
        have HS4 := Lib.hid (HS3.out.put1 (by omega) hg4 hb4 HYS.out)
        refine h_pure 4 (some 4) (.int .i64 0) rfl (by kernel_rfl) (by kernel_rfl) (by kernel_rfl) (by kernel_rfl) (fun _ _ _ h => h) (by kernel_rfl) (fun w hw => by go_simp) HS4.out ?_
        simp only [Act.put, List.setIfInBounds_toArray, List.set_cons_zero, List.set_cons_succ]
        refine wpAnyH_done (by kernel_rfl) ?_ _
        go_wp2_with fail
        have hb34 := (hg4.block w.heap.size (Array.getElem?_eq_some_iff.1 hb3).1 (by omega)).trans hb3
        exact bodyPost_ret (run_results_cell2_tmp Tryz.results12 _ _ w.heap.size (w.heap.size + 1) 34 X Y (0, 0) (0, 0) _ (.int .i64 0) (by kernel_rfl) (by kernel_rfl) (by kernel_rfl) hb34 hb4 Tryz.underlying34 rfl (by rw [HXS.out]; exact info_rec) (by rw [HYS.out]; exact info_rec)) (by kernel_rfl) ⟨(by rw [HTv.out, ← HXX.out, ← HYY.out]), (HGv.out.chg).drew.then_new HS4.out.chg (fun x e => by omega)⟩
      · have hb1 : (sx == wy) = false := by rw [beq_eq_false_iff_ne]; exact e1
        rw [if_neg e1] at hT
        by_cases e2 : sy = wx
        · have hb2 : (sy == wx) = true := by rw [beq_iff_eq]; exact e2
          rw [if_pos e2] at hT
          have HTv := Lib.hid hT
          clear hT
          clear e1 e2
          go_wp2_with (first
            | (refine sel none (.store 34 (.tmp 12) (.tmp 43)) ?_
               refine wpList_store_rowA rfl 34 (.tmp 12) (.tmp 43) rfl v5.heap.size Y rfl rfl 34 _ (heap_alloc_new _ _) (by rw [HYS.out]; exact info_rec) (by rw [HYS.out]; rfl) HYO.out ?_
               intro v6 hg6 hb6
               have HGv := Lib.hid ((HGv.out.non ((Chg.refl Non v5).alloc _)).put hg6 (by omega))
               have HB5 := Lib.hid ((hg6.block b (by simp; omega) (by omega)).trans (r5_blk ((Chg.refl Non v5).alloc _) HB5.out))
               have HB6 := Lib.hid hb6
               have k10 : v6.cell? ⟨b, 0, none⟩ = some (.int .i64 sx) := by rw [cell_of_row _ _ _ _ _ _ HB5.out]; exact HX0.out
               have k12 : v6.cell? ⟨v5.heap.size, 0, none⟩ = some (.int .i64 sy) := by rw [cell_of_row _ _ _ _ _ _ hb6]; exact HY0.out
               clear hg6 hb6))
          have HSt := Lib.hid (HGv.out.stG : StG w.heap.size (w.heap.size + 1) v6.drew v6.drew)
          have HRa : Hid (v6.drew.rangeAt v5.heap.size 0 Y.toList) := Lib.hid (range_drew HB6.out)
          have HRb : Hid (v6.drew.rangeAt b 0 X.toList) := Lib.hid (range_drew HB5.out)
          refine wp_region_held_drew (S := StG w.heap.size (w.heap.size + 1) v6.drew) (by kernel_rfl) HSt.out (fun hHeld => ?_)
          clear hHeld
          refine h_load 0 (some 80) 34 (.tmp 12) v5.heap.size 0 Y _ rfl (by kernel_rfl) (by kernel_rfl) (by kernel_rfl) (by kernel_rfl) (by kernel_rfl) (fun _ _ _ h => h) (by kernel_rfl) (by kernel_rfl) (fun w h => h.range HRa.out (by omega) (by omega)) Tryz.underlying34 rfl (by rw [HYS.out]; exact info_rec) HSt.out ?_
          simp only [Act.put, List.setIfInBounds_toArray, List.set_cons_zero, List.set_cons_succ]
          refine h_load 1 (some 81) 34 (.tmp 10) b 0 X _ rfl (by kernel_rfl) (by kernel_rfl) (by kernel_rfl) (by kernel_rfl) (by kernel_rfl) (fun _ _ _ h => h) (by kernel_rfl) (by kernel_rfl) (fun w h => h.range HRb.out (by omega) (by omega)) Tryz.underlying34 rfl (by rw [HXS.out]; exact info_rec) HSt.out ?_
          simp only [Act.put, List.setIfInBounds_toArray, List.set_cons_zero, List.set_cons_succ]
          refine h_store 2 34 (.tmp 2) (.tmp 80) w.heap.size Y (by kernel_rfl) rfl (by kernel_rfl) (by kernel_rfl) (by kernel_rfl) (by kernel_rfl) (by kernel_rfl) 34 (by rw [HYS.out]; exact HSt.out.o0) (by rw [HYS.out]; exact info_rec) HYO.out (fun W3 h1 h2 => HSt.out.put0 (by omega) h1 h2 HYS.out) ?_
          intro W3 hg3 hb3
          have HS3 := Lib.hid (HSt.out.put0 (by omega) hg3 hb3 HYS.out)
          refine h_store 3 34 (.tmp 3) (.tmp 81) (w.heap.size + 1) X (by kernel_rfl) rfl (by kernel_rfl) (by kernel_rfl) (by kernel_rfl) (by kernel_rfl) (by kernel_rfl) 34 (by rw [HXS.out]; exact HS3.out.o1) (by rw [HXS.out]; exact info_rec) HXO.out (fun W4 h1 h2 => HS3.out.put1 (by omega) h1 h2 HXS.out) ?_
          intro W4 hg4 hb4
          have HS4 := Lib.hid (HS3.out.put1 (by omega) hg4 hb4 HXS.out)
          refine h_pure 4 (some 4) (.int .i64 0) rfl (by kernel_rfl) (by kernel_rfl) (by kernel_rfl) (by kernel_rfl) (fun _ _ _ h => h) (by kernel_rfl) (fun w hw => by go_simp) HS4.out ?_
          simp only [Act.put, List.setIfInBounds_toArray, List.set_cons_zero, List.set_cons_succ]
          refine wpAnyH_done (by kernel_rfl) ?_ _
          go_wp2_with fail
          have hb34 := (hg4.block w.heap.size (Array.getElem?_eq_some_iff.1 hb3).1 (by omega)).trans hb3
          exact bodyPost_ret (run_results_cell2_tmp Tryz.results12 _ _ w.heap.size (w.heap.size + 1) 34 Y X (0, 0) (0, 0) _ (.int .i64 0) (by kernel_rfl) (by kernel_rfl) (by kernel_rfl) hb34 hb4 Tryz.underlying34 rfl (by rw [HYS.out]; exact info_rec) (by rw [HXS.out]; exact info_rec)) (by kernel_rfl) ⟨(by rw [HTv.out, ← HXX.out, ← HYY.out]), (HGv.out.chg).drew.then_new HS4.out.chg (fun x e => by omega)⟩
        · have hb2 : (sy == wx) = false := by rw [beq_eq_false_iff_ne]; exact e2
          rw [if_neg e2] at hT
          by_cases e3 : sy < sx
          · have hb3 : decide (sx > sy) = true := by rw [decide_eq_true_eq]; exact e3
            rw [if_pos e3] at hT
            have HTv := Lib.hid hT
            clear hT
            clear e1 e2 e3
            go_wp2_with (first
              | (refine sel none (.store 34 (.tmp 12) (.tmp 43)) ?_
                 refine wpList_store_rowA rfl 34 (.tmp 12) (.tmp 43) rfl v5.heap.size Y rfl rfl 34 _ (heap_alloc_new _ _) (by rw [HYS.out]; exact info_rec) (by rw [HYS.out]; rfl) HYO.out ?_
                 intro v6 hg6 hb6
                 have HGv := Lib.hid ((HGv.out.non ((Chg.refl Non v5).alloc _)).put hg6 (by omega))
                 have HB5 := Lib.hid ((hg6.block b (by simp; omega) (by omega)).trans (r5_blk ((Chg.refl Non v5).alloc _) HB5.out))
                 have HB6 := Lib.hid hb6
                 have k10 : v6.cell? ⟨b, 0, none⟩ = some (.int .i64 sx) := by rw [cell_of_row _ _ _ _ _ _ HB5.out]; exact HX0.out
                 have k12 : v6.cell? ⟨v5.heap.size, 0, none⟩ = some (.int .i64 sy) := by rw [cell_of_row _ _ _ _ _ _ hb6]; exact HY0.out
                 clear hg6 hb6))
            have HSt := Lib.hid (HGv.out.stG : StG w.heap.size (w.heap.size + 1) v6.drew v6.drew)
            have HRa : Hid (v6.drew.rangeAt b 0 X.toList) := Lib.hid (range_drew HB5.out)
            have HRb : Hid (v6.drew.rangeAt (w.heap.size + 1 + 1) 0 recZ.toList) := Lib.hid HGv.out.range
            refine wp_region_held_drew (S := StG w.heap.size (w.heap.size + 1) v6.drew) (by kernel_rfl) HSt.out (fun hHeld => ?_)
            clear hHeld
            refine h_load 0 (some 88) 34 (.tmp 10) b 0 X _ rfl (by kernel_rfl) (by kernel_rfl) (by kernel_rfl) (by kernel_rfl) (by kernel_rfl) (fun _ _ _ h => h) (by kernel_rfl) (by kernel_rfl) (fun w h => h.range HRa.out (by omega) (by omega)) Tryz.underlying34 rfl (by rw [HXS.out]; exact info_rec) HSt.out ?_
            simp only [Act.put, List.setIfInBounds_toArray, List.set_cons_zero, List.set_cons_succ]
            refine h_load 1 (some 89) 34 (.tmp 5) (w.heap.size + 1 + 1) 0 recZ _ rfl (by kernel_rfl) (by kernel_rfl) (by kernel_rfl) (by kernel_rfl) (by kernel_rfl) (fun _ _ _ h => h) (by kernel_rfl) (by kernel_rfl) (fun w h => h.range HRb.out (by omega) (by omega)) Tryz.underlying34 rfl (by rw [recZ_size]; exact info_rec) HSt.out ?_
            simp only [Act.put, List.setIfInBounds_toArray, List.set_cons_zero, List.set_cons_succ]
            refine h_store 2 34 (.tmp 2) (.tmp 88) w.heap.size X (by kernel_rfl) rfl (by kernel_rfl) (by kernel_rfl) (by kernel_rfl) (by kernel_rfl) (by kernel_rfl) 34 (by rw [HXS.out]; exact HSt.out.o0) (by rw [HXS.out]; exact info_rec) HXO.out (fun W3 h1 h2 => HSt.out.put0 (by omega) h1 h2 HXS.out) ?_
            intro W3 hg3 hb3
            have HS3 := Lib.hid (HSt.out.put0 (by omega) hg3 hb3 HXS.out)
            refine h_store 3 34 (.tmp 3) (.tmp 89) (w.heap.size + 1) recZ (by kernel_rfl) rfl (by kernel_rfl) (by kernel_rfl) (by kernel_rfl) (by kernel_rfl) (by kernel_rfl) 34 (by rw [recZ_size]; exact HS3.out.o1) (by rw [recZ_size]; exact info_rec) recZ_one (fun W4 h1 h2 => HS3.out.put1 (by omega) h1 h2 recZ_size) ?_
            intro W4 hg4 hb4
            have HS4 := Lib.hid (HS3.out.put1 (by omega) hg4 hb4 recZ_size)
            refine h_pure 4 (some 4) (.int .i64 0) rfl (by kernel_rfl) (by kernel_rfl) (by kernel_rfl) (by kernel_rfl) (fun _ _ _ h => h) (by kernel_rfl) (fun w hw => by go_simp) HS4.out ?_
            simp only [Act.put, List.setIfInBounds_toArray, List.set_cons_zero, List.set_cons_succ]
            refine wpAnyH_done (by kernel_rfl) ?_ _
            go_wp2_with fail
            have hb34 := (hg4.block w.heap.size (Array.getElem?_eq_some_iff.1 hb3).1 (by omega)).trans hb3
            exact bodyPost_ret (run_results_cell2_tmp Tryz.results12 _ _ w.heap.size (w.heap.size + 1) 34 X recZ (0, 0) (0, 0) _ (.int .i64 0) (by kernel_rfl) (by kernel_rfl) (by kernel_rfl) hb34 hb4 Tryz.underlying34 rfl (by rw [HXS.out]; exact info_rec) (by rw [recZ_size]; exact info_rec)) (by kernel_rfl) ⟨(by rw [HTv.out, ← HXX.out]; rfl), (HGv.out.chg).drew.then_new HS4.out.chg (fun x e => by omega)⟩
          · have hb3 : decide (sx > sy) = false := by rw [decide_eq_false_iff_not]; exact e3
            rw [if_neg e3] at hT
            have HTv := Lib.hid hT
            clear hT
            clear e1 e2 e3
            go_wp2_with (first
              | (refine sel none (.store 34 (.tmp 12) (.tmp 43)) ?_
                 refine wpList_store_rowA rfl 34 (.tmp 12) (.tmp 43) rfl v5.heap.size Y rfl rfl 34 _ (heap_alloc_new _ _) (by rw [HYS.out]; exact info_rec) (by rw [HYS.out]; rfl) HYO.out ?_
                 intro v6 hg6 hb6
                 have HGv := Lib.hid ((HGv.out.non ((Chg.refl Non v5).alloc _)).put hg6 (by omega))
                 have HB5 := Lib.hid ((hg6.block b (by simp; omega) (by omega)).trans (r5_blk ((Chg.refl Non v5).alloc _) HB5.out))
                 have HB6 := Lib.hid hb6
                 have k10 : v6.cell? ⟨b, 0, none⟩ = some (.int .i64 sx) := by rw [cell_of_row _ _ _ _ _ _ HB5.out]; exact HX0.out
                 have k12 : v6.cell? ⟨v5.heap.size, 0, none⟩ = some (.int .i64 sy) := by rw [cell_of_row _ _ _ _ _ _ hb6]; exact HY0.out
                 clear hg6 hb6))
            have HSt := Lib.hid (HGv.out.stG : StG w.heap.size (w.heap.size + 1) v6.drew v6.drew)
            have HRa : Hid (v6.drew.rangeAt v5.heap.size 0 Y.toList) := Lib.hid (range_drew HB6.out)
            have HRb : Hid (v6.drew.rangeAt (w.heap.size + 1 + 1) 0 recZ.toList) := Lib.hid HGv.out.range
            refine wp_region_held_drew (S := StG w.heap.size (w.heap.size + 1) v6.drew) (by kernel_rfl) HSt.out (fun hHeld => ?_)
            clear hHeld
            refine h_load 0 (some 90) 34 (.tmp 12) v5.heap.size 0 Y _ rfl (by kernel_rfl) (by kernel_rfl) (by kernel_rfl) (by kernel_rfl) (by kernel_rfl) (fun _ _ _ h => h) (by kernel_rfl) (by kernel_rfl) (fun w h => h.range HRa.out (by omega) (by omega)) Tryz.underlying34 rfl (by rw [HYS.out]; exact info_rec) HSt.out ?_
            simp only [Act.put, List.setIfInBounds_toArray, List.set_cons_zero, List.set_cons_succ]
            refine h_load 1 (some 91) 34 (.tmp 5) (w.heap.size + 1 + 1) 0 recZ _ rfl (by kernel_rfl) (by kernel_rfl) (by kernel_rfl) (by kernel_rfl) (by kernel_rfl) (fun _ _ _ h => h) (by kernel_rfl) (by kernel_rfl) (fun w h => h.range HRb.out (by omega) (by omega)) Tryz.underlying34 rfl (by rw [recZ_size]; exact info_rec) HSt.out ?_
            simp only [Act.put, List.setIfInBounds_toArray, List.set_cons_zero, List.set_cons_succ]
            refine h_store 2 34 (.tmp 2) (.tmp 90) w.heap.size Y (by kernel_rfl) rfl (by kernel_rfl) (by kernel_rfl) (by kernel_rfl) (by kernel_rfl) (by kernel_rfl) 34 (by rw [HYS.out]; exact HSt.out.o0) (by rw [HYS.out]; exact info_rec) HYO.out (fun W3 h1 h2 => HSt.out.put0 (by omega) h1 h2 HYS.out) ?_
            intro W3 hg3 hb3
            have HS3 := Lib.hid (HSt.out.put0 (by omega) hg3 hb3 HYS.out)
            refine h_store 3 34 (.tmp 3) (.tmp 91) (w.heap.size + 1) recZ (by kernel_rfl) rfl (by kernel_rfl) (by kernel_rfl) (by kernel_rfl) (by kernel_rfl) (by kernel_rfl) 34 (by rw [recZ_size]; exact HS3.out.o1) (by rw [recZ_size]; exact info_rec) recZ_one (fun W4 h1 h2 => HS3.out.put1 (by omega) h1 h2 recZ_size) ?_
            intro W4 hg4 hb4
            have HS4 := Lib.hid (HS3.out.put1 (by omega) hg4 hb4 recZ_size)
            refine h_pure 4 (some 4) (.int .i64 0) rfl (by kernel_rfl) (by kernel_rfl) (by kernel_rfl) (by kernel_rfl) (fun _ _ _ h => h) (by kernel_rfl) (fun w hw => by go_simp) HS4.out ?_
            simp only [Act.put, List.setIfInBounds_toArray, List.set_cons_zero, List.set_cons_succ]
            refine wpAnyH_done (by kernel_rfl) ?_ _
            go_wp2_with fail
            have hb34 := (hg4.block w.heap.size (Array.getElem?_eq_some_iff.1 hb3).1 (by omega)).trans hb3
            exact bodyPost_ret (run_results_cell2_tmp Tryz.results12 _ _ w.heap.size (w.heap.size + 1) 34 Y recZ (0, 0) (0, 0) _ (.int .i64 0) (by kernel_rfl) (by kernel_rfl) (by kernel_rfl) hb34 hb4 Tryz.underlying34 rfl (by rw [HYS.out]; exact info_rec) (by rw [recZ_size]; exact info_rec)) (by kernel_rfl) ⟨(by rw [HTv.out, ← HYY.out]; rfl), (HGv.out.chg).drew.then_new HS4.out.chg (fun x e => by omega)⟩
theorem rGet (B p q : Nat) (E : Rk) (w : World) (h : IsRk B p q w E) (h1 : 1 ≤ E.l.length) :
    Calls Tryz.prog 12 #[.pointer (some ⟨p, 0, none⟩)] w fun e w' => e = .returned (.tuple #[.agg (recA (rGetV E).1), .agg (recA (rGetV E).2.1), .int .i64 (rGetV E).2.2]) ∧ Chg Non w w' := by
  unfold rGetV
  cases hd : E.down with
  | true => exact rGet_down B p q E w h hd
  | false =>
    rw [if_neg (by simp)]
    obtain ⟨⟨f0, c0⟩, h0⟩ : ∃ x, E.l[0]? = some x := ⟨_, List.getElem?_eq_getElem (by omega)⟩
    by_cases h2 : E.l.length < 2
    · rw [if_pos h2]
      exact rGet_one B p q E w h hd f0 c0 h0 h2
    · rw [if_neg h2]
      obtain ⟨⟨f1, c1⟩, h1'⟩ : ∃ x, E.l[1]? = some x := ⟨_, List.getElem?_eq_getElem (by omega)⟩
      rw [rkAt_some h0, rkAt_some h1']
      exact rGet_two B p q E w h hd f0 f1 c0 c1 h0 h1'
end Go.Proofs.YtgmpacndjmmgjaaGreat
end
section
namespace Go.Proofs.YtgmpacndjmmgjaaGreat
open Go.RowKit
set_option linter.unusedVariables false

/-- the blocks of both disks -/
def BS (pd ps pm p q : Nat) : Nat → Prop := fun k => DS pd ps pm k ∨ RS p q k
/-- since w0 both disks were made: D (blocks pd, ps, pm) and E (blocks p, q, and the bytes, from B on) -/
structure Hf (w0 : World) (pd ps pm p q B : Nat) (D : Dk) (E : Rk) (W : World) : Prop where
  dk : IsD W pd ps pm D
  rk : IsRk B p q W E
  lo : w0.heap.size ≤ pd ∧ w0.heap.size ≤ ps ∧ w0.heap.size ≤ pm
  lt : pd < B ∧ ps < B ∧ pm < B
  chg : Chg Non w0 W
namespace Hf
variable {w0 W W' : World} {pd ps pm p q B : Nat} {D D' : Dk} {E E' : Rk}
theorem non (h : Hf w0 pd ps pm p q B D E W) (hg : Chg Non W W') : Hf w0 pd ps pm p q B D E W' := ⟨h.dk.non hg, h.rk.non hg, h.lo, h.lt, h.chg.then_non hg⟩
theorem dstep (h : Hf w0 pd ps pm p q B D E W) (hd : IsD W' pd ps pm D') (hg : Chg (DS pd ps pm) W W') : Hf w0 pd ps pm p q B D' E W' := by
  obtain ⟨h1, h2, h3, h4, h5⟩ := h
  refine ⟨hd, h2.keep hg ?_, h3, h4, h5.then_new hg ?_⟩
  · rintro x (rfl | rfl | rfl)
    · exact h4.1
    · exact h4.2.1
    · exact h4.2.2
  · rintro x (rfl | rfl | rfl)
    · exact h3.1
    · exact h3.2.1
    · exact h3.2.2
theorem rstep (h : Hf w0 pd ps pm p q B D E W) (hr : IsRk B p q W' E') (hg : RChg p q W W') : Hf w0 pd ps pm p q B D E' W' := by
  obtain ⟨h1, h2, h3, h4, h5⟩ := h
  have hge := h2.ge
  refine ⟨?_, hr, h3, h4, h5.then_new hg.chg ?_⟩
  · obtain ⟨hok, A, c, a1, a2, a3, a4, a5⟩ := h1
    have l1 := (Array.getElem?_eq_some_iff.1 a1).1
    have l2 := (Array.getElem?_eq_some_iff.1 a2).1
    have off : ∀ k, k < B → ¬ RS p q k := by
      rintro k hk (rfl | rfl)
      · omega
      · omega
    exact ⟨hok, A, c, (hg.chg.block pd l1 (off _ h4.1)).trans a1, (hg.chg.block ps l2 (off _ h4.2.1)).trans a2, a3.keep hg.chg (off _ h4.2.2), a4.ref hg, a5⟩
  · rintro x (rfl | rfl)
    · omega
    · omega
theorem ltd (h : Hf w0 pd ps pm p q B D E W) : ∀ k, BS pd ps pm p q k → k < W.heap.size := by
  have h1 := h.dk.lt
  have h2 := h.rk.lt
  rintro k ((rfl | rfl | rfl) | (rfl | rfl))
  · exact h1.1
  · exact h1.2.1
  · exact h1.2.2
  · exact h2.1
  · exact h2.2
/-- an argument of the law lies in none of the disks' blocks -/
theorem off (h : Hf w0 pd ps pm p q B D E W) {A : Option Addr} {l : List UInt8} (hr : Rd w0 A l) : ∀ b o, A = some ⟨b, o, none⟩ → l ≠ [] → b < w0.heap.size := by
  rintro b o rfl hl
  obtain ⟨b', o', e, hlt, _⟩ := hr.at_ (List.length_pos_iff.2 hl)
  injection e with e
  injection e with e _ _
  omega
end Hf
section
variable {w0 W : World} {pd ps pm p q B n : Nat} {D : Dk} {E : Rk}
theorem hf_dput (h : Hf w0 pd ps pm p q B D E W) (hz : D.Sz) (hl : 0 < D.sec.length) (r : Rec) (hh : r.hash.length = 32) (hs : r.seqn ≤ 9223372036854775807) :
    Calls Tryz.prog 17 #[.pointer (some ⟨pd, 0, none⟩), .agg (recA r)] W fun e W' => e = .returned (.int .i64 (cPut D r).2) ∧ Hf w0 pd ps pm p q B (cPut D r).1 E W' ∧ Chg (BS pd ps pm p q) W W' := by
  refine (cPut_any pd ps pm D r W hh hs h.dk hz hl).mono ?_
  rintro e u ⟨rfl, hd, hg⟩
  exact ⟨rfl, h.dstep hd hg, hg.mono (fun x e => .inl e)⟩
theorem hf_rput (h : Hf w0 pd ps pm p q B D E W) (hz : E.Sz) (r : Rec) (hh : r.hash.length = 32) (hs : r.seqn ≤ 9223372036854775807) :
    Calls Tryz.prog 18 #[.pointer (some ⟨p, 0, none⟩), .agg (recA r)] W fun e W' => e = .returned (.int .i64 (rPutV E r).2) ∧ Hf w0 pd ps pm p q B D (rPutV E r).1 W' ∧ Chg (BS pd ps pm p q) W W' := by
  refine (rCPut B p q E r W h.rk hz hh hs).mono ?_
  rintro e u ⟨rfl, hd, hg⟩
  exact ⟨rfl, h.rstep hd hg, hg.chg.mono (fun x e => .inr e)⟩
theorem hf_dwrite (h : Hf w0 pd ps pm p q B D E W) (hz : D.Sz) (i : Int) (A : Option Addr) (b : List UInt8) (c : Nat) (hr : Rd W A b) (hA : ∀ x o, A = some ⟨x, o, none⟩ → b ≠ [] → x ≠ pd) :
    Calls Tryz.prog 19 #[.pointer (some ⟨pd, 0, none⟩), .int .i64 i, .slice A b.length c] W fun e W' => e = .returned (.int .i64 (D.write i b).2) ∧ Hf w0 pd ps pm p q B (D.write i b).1 E W' ∧ Chg (BS pd ps pm p q) W W' := by
  refine (Write_any pd ps pm D i A b c W h.dk hz hr hA).mono ?_
  rintro e u ⟨rfl, hd, hg⟩
  exact ⟨rfl, h.dstep hd hg, hg.mono (fun x e => .inl e)⟩
theorem hf_rwrite (h : Hf w0 pd ps pm p q B D E W) (hz : E.Sz) (i : Int) (A : Option Addr) (b : List UInt8) (c : Nat) (hr : Rd W A b) (hb : b.length ≤ 1000000) :
    Calls Tryz.prog 20 #[.pointer (some ⟨p, 0, none⟩), .int .i64 i, .slice A b.length c] W fun e W' => e = .returned (.int .i64 (E.write i b).2) ∧ Hf w0 pd ps pm p q B D (E.write i b).1 W' ∧ Chg (BS pd ps pm p q) W W' := by
  refine (rWrite B p q E i A b c W h.rk hz hr hb).mono ?_
  rintro e u ⟨rfl, hd, hg⟩
  exact ⟨rfl, h.rstep hd hg, hg.chg.mono (fun x e => .inr e)⟩
theorem hf_dflush (h : Hf w0 pd ps pm p q B D E W) (hz : D.Sz) :
    Calls Tryz.prog 21 #[.pointer (some ⟨pd, 0, none⟩)] W fun e W' => e = .returned (.int .i64 D.flush.2) ∧ Hf w0 pd ps pm p q B D.flush.1 E W' ∧ Chg (BS pd ps pm p q) W W' := by
  refine (Flush_any pd ps pm D W h.dk hz).mono ?_
  rintro e u ⟨rfl, hd, hg⟩
  exact ⟨rfl, h.dstep hd hg, hg.mono (fun x e => .inl e)⟩
theorem hf_rflush (h : Hf w0 pd ps pm p q B D E W) (hz : E.Sz) :
    Calls Tryz.prog 22 #[.pointer (some ⟨p, 0, none⟩)] W fun e W' => e = .returned (.int .i64 E.flush.2) ∧ Hf w0 pd ps pm p q B D E.flush.1 W' ∧ Chg (BS pd ps pm p q) W W' := by
  refine (rFlush B p q E W h.rk hz).mono ?_
  rintro e u ⟨rfl, hd, hg⟩
  exact ⟨rfl, h.rstep hd hg, hg.chg.mono (fun x e => .inr e)⟩
theorem hf_dcrash (h : Hf w0 pd ps pm p q B D E W) (A : Option Addr) (b : List UInt8) (c : Nat) (hr : Rd w0 A b) (hb : b.length ≤ 1000000) :
    Calls Tryz.prog 23 #[.pointer (some ⟨pd, 0, none⟩), .slice A b.length c] W fun e W' => e = .returned (.int .i64 (D.crash b).2) ∧ Hf w0 pd ps pm p q B (D.crash b).1 E W' ∧ Chg (BS pd ps pm p q) W W' := by
  have hlo := h.lo
  refine (Crash_any pd ps pm D A b c W h.dk (hr.non h.chg) (fun x o e hl hs => by have := h.off hr x o e hl; rcases hs with rfl | rfl | rfl <;> omega) hb).mono ?_
  rintro e u ⟨rfl, hd, hg⟩
  exact ⟨rfl, h.dstep hd hg, hg.mono (fun x e => .inl e)⟩
theorem hf_rcrash (h : Hf w0 pd ps pm p q B D E W) (hz : E.Sz) (A : Option Addr) (b : List UInt8) (c : Nat) (hr : Rd w0 A b) (hb : b.length ≤ 1000000) :
    Calls Tryz.prog 24 #[.pointer (some ⟨p, 0, none⟩), .slice A b.length c] W fun e W' => e = .returned (.int .i64 (E.crash b).2) ∧ Hf w0 pd ps pm p q B D (E.crash b).1 W' ∧ Chg (BS pd ps pm p q) W W' := by
  refine (rCrash B p q E A b c W h.rk hz (hr.non h.chg) hb).mono ?_
  rintro e u ⟨rfl, hd, hg⟩
  exact ⟨rfl, h.rstep hd hg, hg.chg.mono (fun x e => .inr e)⟩
theorem hf_dstart (h : Hf w0 pd ps pm p q B D E W) :
    Calls Tryz.prog 25 #[.pointer (some ⟨pd, 0, none⟩)] W fun e W' => e = .returned (.int .i64 D.start.2) ∧ Hf w0 pd ps pm p q B D.start.1 E W' ∧ Chg (BS pd ps pm p q) W W' := by
  refine (Start_any pd ps pm D W h.dk).mono ?_
  rintro e u ⟨rfl, hd, hg⟩
  exact ⟨rfl, h.dstep hd hg, hg.mono (fun x e => .inl e)⟩
theorem hf_rstart (h : Hf w0 pd ps pm p q B D E W) :
    Calls Tryz.prog 26 #[.pointer (some ⟨p, 0, none⟩)] W fun e W' => e = .returned (.int .i64 E.start.2) ∧ Hf w0 pd ps pm p q B D E.start.1 W' ∧ Chg (BS pd ps pm p q) W W' := by
  refine (rStart B p q E W h.rk).mono ?_
  rintro e u ⟨rfl, hd, hg⟩
  exact ⟨rfl, h.rstep hd hg, hg.chg.mono (fun x e => .inr e)⟩
end
set_option maxRecDepth 100000 in
set_option maxHeartbeats 2000000 in
theorem Arm_any (pd ps pm : Nat) (D : Dk) (n : Int) (B : Option Addr) (l : List UInt8) (cb : Nat) (w : World) (h : IsD w pd ps pm D) (hr : Rd w B l) (hl : l.length ≤ 1000000) :
    Calls Tryz.prog 27 #[.pointer (some ⟨pd, 0, none⟩), .int .i64 n, .slice B l.length cb] w fun e w' => e = .returned (.int .i64 (D.arm n l).2) ∧ IsD w' pd ps pm (D.arm n l).1 ∧ Chg (DS pd ps pm) w w' := by
  have hrd := ready_ok pd ps pm D w h
  unfold Dk.arm
  by_cases hup : D.up = false
  · rw [if_pos hup]
    have hr1 : D.ready = 60 := by unfold Dk.ready; rw [hup]; rfl
    rw [hr1] at hrd
    have HR := Lib.hid hrd
    have HD := Lib.hid h
    clear hrd hr1 hup h hr
    go_enter Tryz.func27, Tryz.ntmps27
    go_wp2_with fail
    refine HR.out.mono ?_
    rintro e w' ⟨rfl, rfl⟩
    go_wp2
    go_ret
    exact ⟨rfl, HD.out, Chg.refl _ _⟩
  · rw [if_neg hup]
    have hup : D.up = true := by simpa using hup
    by_cases hn : n < 1
    · rw [if_pos hn]
      have hr1 : D.ready = 0 := by unfold Dk.ready; rw [hup]; rfl
      rw [hr1] at hrd
      have HR := Lib.hid hrd
      have HD := Lib.hid h
      have hb : decide (n < 1) = true := decide_eq_true hn
      clear hrd hr1 hup h hr hn
      go_enter Tryz.func27, Tryz.ntmps27
      go_wp2_with fail
      refine HR.out.mono ?_
      rintro e w' ⟨rfl, rfl⟩
      go_wp2
      go_ret
      exact ⟨rfl, HD.out, Chg.refl _ _⟩
    · rw [if_neg hn]
      exact Arm_up pd ps pm D n B l cb w h hup hr hl (by omega)
section
variable {w0 W : World} {pd ps pm p q B n : Nat} {D : Dk} {E : Rk}
theorem hf_darm (h : Hf w0 pd ps pm p q B D E W) (i : Int) (A : Option Addr) (b : List UInt8) (c : Nat) (hr : Rd w0 A b) (hb : b.length ≤ 1000000) :
    Calls Tryz.prog 27 #[.pointer (some ⟨pd, 0, none⟩), .int .i64 i, .slice A b.length c] W fun e W' => e = .returned (.int .i64 (D.arm i b).2) ∧ Hf w0 pd ps pm p q B (D.arm i b).1 E W' ∧ Chg (BS pd ps pm p q) W W' := by
  refine (Arm_any pd ps pm D i A b c W h.dk (hr.non h.chg) hb).mono ?_
  rintro e u ⟨rfl, hd, hg⟩
  exact ⟨rfl, h.dstep hd hg, hg.mono (fun x e => .inl e)⟩
theorem hf_rarm (h : Hf w0 pd ps pm p q B D E W) (i : Int) (A : Option Addr) (b : List UInt8) (c : Nat) (hr : Rd w0 A b) (hb : b.length ≤ 1000000) :
    Calls Tryz.prog 28 #[.pointer (some ⟨p, 0, none⟩), .int .i64 i, .slice A b.length c] W fun e W' => e = .returned (.int .i64 (E.arm i b).2) ∧ Hf w0 pd ps pm p q B D (E.arm i b).1 W' ∧ Chg (BS pd ps pm p q) W W' := by
  refine (rArm B p q E i A b c W h.rk (hr.non h.chg) hb).mono ?_
  rintro e u ⟨rfl, hd, hg⟩
  exact ⟨rfl, h.rstep hd hg, hg.chg.mono (fun x e => .inr e)⟩
end
end Go.Proofs.YtgmpacndjmmgjaaGreat
end
section
namespace Go.Proofs.YtgmpacndjmmgjaaGreat
open Go.ChangeShapes Go.WideShapes Go.ChangeAt Go.RowKit
set_option linter.unusedVariables false

theorem post_below {H : Type} {enc : TypeId × Value → H} {P : Program} {f : Func} {s : ChangeSpec} {apart fresh handsOn again : Bool} {W W' : World} {args : Array Value} {v : Value} {ds gs : List (DataW H)} {before pa pv : List MemPlace}
    (hW : DataW.Whole enc P f.params.toList s.vars apart W args.toList ds gs before)
    (hres : ∀ (b : Nat) (sp : Nat → Bool) (hd : Bool), DataW.TrodAll enc P W' b sp hd f.resultTypes.toList (v.resultList f.resultTypes.size) (s.fn H (ds ++ gs)).results [])
    (hargs : ∀ sp : Nat → Bool, (∀ p ∈ before, sp p.block = true) → DataW.TrodAll enc P W' 0 sp true f.params.toList args.toList (s.fn H (ds ++ gs)).args pa)
    (hvars : ∀ sp : Nat → Bool, (∀ p ∈ before, sp p.block = true) → DataW.TrodVars enc P W' sp s.vars (s.fn H (ds ++ gs)).vars pv)
    (hps : before = pa ++ pv) (hb : Below W.heap.size W W')
    (hok : ∀ (j : Nat) (t : TypeId) (r : Value), f.resultTypes[j]? = some t → (v.resultList f.resultTypes.size)[j]? = some r → Value.okWide P W' .any 0 t r) :
    s.post enc P f apart fresh handsOn again W args v W' := by
  have hlt := hW.lt
  have hold : ∀ p ∈ before, (fun b => decide (b < W.heap.size)) p.block = true := fun p hp => by simpa using hlt p hp
  refine ⟨ds, gs, before, [], pa, pv, hW, hres _ _ _, hargs _ hold, hvars _ hold, World.keptBut_mono (fun p hp => ⟨hp, ?_⟩) (hb.frame (· ∈ before)), fun _ => ?_⟩
  · rw [hps, List.mem_append] at hp
    exact Or.inr hp
  · obtain ⟨_, _, _, _, _, hz, hn⟩ := hW
    refine ⟨hok, _, _, ([] ++ pa) ++ pv, ⟨[] ++ pa, pv, trodAll_append (hargs _ (fun _ _ => rfl)) (hres _ _ _), hvars _ (fun _ _ => rfl), rfl, ?_, ?_⟩, ?_⟩
    · intro b off hp
      have hp' : MemPlace.cell b off ∈ before := by rw [hps]; simpa using hp
      rw [hb.frozen (show b < W.heap.size from hlt _ hp')]
      exact hz b off hp'
    · intro ha
      have := hn ha
      rw [hps] at this
      simpa using this
    · intro p hp _
      rw [hps]
      simpa using hp
end Go.Proofs.YtgmpacndjmmgjaaGreat
end
section
namespace Go.Proofs.YtgmpacndjmmgjaaGreat
open Go.ChangeShapes Go.WideShapes Go.ChangeAt Go.RowKit
set_option linter.unusedVariables false

section
variable {H : Type} {enc : TypeId × Value → H} {P : Program}

theorem sameAt_below {W W' : World} (hb : Below W.heap.size W W') {p : MemPlace} (hp : p.block < W.heap.size) : W.sameAt W' p := by
  cases p with
  | cell b off => exact hb.cell (p := ⟨b, off, none⟩) hp
  | map b => exact hb.block b hp

theorem trodAll_carry {W W' : World} {base : Nat} {sp : Nat → Bool} {hd : Bool} : ∀ {ts : List TypeId} {vs : List Value} {ds : List (DataW H)} {ps : List MemPlace},
    DataW.TrodAll enc P W base sp hd ts vs ds ps → (∀ p ∈ ps, W.sameAt W' p) → DataW.TrodAll enc P W' base sp hd ts vs ds ps
  | [], [], [], _, h, _ => h
  | _ :: _, _ :: _, _ :: _, _, ⟨p, q, ⟨n, h1⟩, h2, e⟩, hs =>
    ⟨p, q, ⟨n, DataW.trod_carry n _ _ _ h1 (fun x hx => hs x (by rw [e]; exact List.mem_append_left _ hx))⟩,
      trodAll_carry h2 (fun x hx => hs x (by rw [e]; exact List.mem_append_right _ hx)), e⟩

/-- the row's last step, for arguments of any type -/
theorem post_law {f : Func} {s : ChangeSpec} {apart fresh handsOn again : Bool} {W W' : World} {args : Array Value} {tb : TypeId} {ds gs : List (DataW H)} {before : List MemPlace}
    (K : Kids P (· < P.types.size)) (hz : ∀ t e, t < P.types.size → P.underlying t = some (.slice e) → 0 < P.cellsOf e)
    (hT : ∀ t ∈ f.params.toList, t < P.types.size) (hr : f.resultTypes = #[tb]) (hub : P.underlying tb = some .bool)
    (hW : DataW.Whole enc P f.params.toList s.vars apart W args.toList ds gs before) (hv : s.vars = [])
    (hs : (s.fn H (ds ++ gs)).results = [.lit (.bool true)]) (ha : (s.fn H (ds ++ gs)).args = ds) (hv2 : (s.fn H (ds ++ gs)).vars = []) (hb : Below W.heap.size W W') :
    s.post enc P f apart fresh handsOn again W args (.bool true) W' := by
  have hW' := hW
  have hlt := hW.lt
  obtain ⟨p, q, hA, hV, rfl, hfz, hnd⟩ := hW
  rw [hv] at hV
  obtain ⟨rfl, rfl⟩ := trodVars_none hV
  rw [List.append_nil] at hlt
  refine post_below (pa := p) (pv := []) hW' ?_ ?_ ?_ rfl hb ?_
  · intro b sp hd
    rw [hr, hs]
    exact trodAll_cons_mk (shut_bool hub _) trodAll_mk0
  · intro sp hsp
    rw [ha]
    exact DataW.TrodAll.respare K hz hT (trodAll_carry hA (fun x hx => sameAt_below hb (hlt x hx))) (fun x hx => hsp x (by simpa using hx))
  · intro sp _
    rw [hv, hv2]
    rfl
  · exact ok_one hr rfl (okWide_bool_mk hub _)

/-- a parameter of bytes -/
theorem open_bytes {r : Reach} {b0 : Nat} {W : World} {t e : TypeId} {v : Value} {d : DataW H} {ps : List MemPlace} (ht : P.underlying t = some (.slice e)) (he : P.underlying e = some (.int .u8)) (hc : P.cellsOf e = 1)
    (hval : Value.okWide P W r b0 t v) (h : DataW.Trod enc P W 0 (fun _ => true) true t v d ps) :
    ∃ (B : Option Addr) (l : List UInt8) (c : Nat), v = .slice B l.length c ∧ Rd W B l ∧ l.length ≤ c ∧ c ≤ maxLen := by
  obtain ⟨a, len, cap, rfl⟩ := okWide_slice ht hval
  obtain ⟨fuel, hf⟩ := h
  rcases open_ints ht he hc hf with ⟨h0, _⟩ | ⟨a', len', cap', zs, h0, _, hl, hm, hzl, _, hcell, hwf⟩
  · simp only [Value.cells, List.cons.injEq, Value.slice.injEq, and_true] at h0
    obtain ⟨rfl, rfl, rfl⟩ := h0
    exact ⟨none, [], 0, rfl, Rd.nil _ _, Nat.le_refl _, by simp⟩
  · simp only [Value.cells, List.cons.injEq, Value.slice.injEq, and_true] at h0
    obtain ⟨rfl, rfl, rfl⟩ := h0
    simp only [if_true] at hzl
    have hnum : ∀ n ∈ zs, ((UInt8.ofNat n.toNat).toNat : Int) = n := by
      intro n hn
      obtain ⟨h1, h2⟩ := bounds_u8 (hwf n hn)
      simp only [UInt8.toNat_ofNat']
      omega
    refine ⟨some a', (zs.take len).map (fun n => UInt8.ofNat n.toNat), cap, by simp [hzl, Nat.min_eq_left hl], ?_, by simp [hzl, hl, Nat.min_eq_left hl], hm⟩
    intro i x hx
    rw [List.getElem?_map] at hx
    obtain ⟨n, hn, rfl⟩ := Option.map_eq_some_iff.1 hx
    have hi : i < (zs.take len).length := (List.getElem?_eq_some_iff.1 hn).1
    rw [List.length_take] at hi
    have hn' : zs[i]? = some n := by rw [← hn, List.getElem?_take_of_lt (by omega)]
    obtain ⟨b, off, rfl, hc2⟩ := ints_at hcell (by omega)
    refine ⟨b, off, rfl, ?_⟩
    rw [hc2 i (by omega), List.getD, hn', Option.getD_some, hnum n (List.mem_of_getElem? hn')]
end
end Go.Proofs.YtgmpacndjmmgjaaGreat
end
section
namespace Go.Proofs.YtgmpacndjmmgjaaGreat
open Go.ChangeShapes Go.WideShapes Go.ChangeAt Go.RowKit
set_option linter.unusedVariables false

theorem one_of_take {cs : List Value} {k : Nat} {v : Value} (h : (cs.drop k).take 1 = [v]) : cs[k]? = some v := by
  have h1 : ((cs.drop k).take 1)[0]? = some v := by rw [h]; rfl
  rw [List.getElem?_take_of_lt (by omega), List.getElem?_drop, Nat.add_zero] at h1
  exact h1

section
variable {H : Type} {enc : TypeId × Value → H} {W : World} {base : Nat} {sp : Nat → Bool} {hd : Bool}

/-- an array of bytes among cells -/
theorem open_u8s {P : Program} {t e : TypeId} {n fuel : Nat} {cs : List Value} {x : DataW H × List MemPlace} (ht : P.underlying t = some (.array n e)) (he : P.underlying e = some (.int .u8)) (hc : P.cellsOf e = 1) (hn : P.cellsOf t = n)
    (h : DataW.trod enc P W base sp hd fuel t cs = some x) : ∃ l : List UInt8, cs = l.map bv ∧ l.length = n := by
  obtain ⟨xs, m, _, _, hl, hxl, hx⟩ := DataW.trod_array ht h
  rw [hn] at hl
  have each : ∀ i, i < n → ∃ b : UInt8, cs[i]? = some (bv b) := by
    intro i hi
    have hq := hx i hi
    rw [hc, Nat.mul_one, List.getElem?_eq_getElem (by omega)] at hq
    obtain ⟨k, hk, _, hw⟩ := DataW.trod_int he hq
    obtain ⟨h1, h2⟩ := bounds_u8 hw
    refine ⟨UInt8.ofNat k.toNat, ?_⟩
    rw [one_of_take hk]
    simp only [bv, UInt8.toNat_ofNat']
    congr 2
    omega
  refine ⟨(List.range n).map (fun i => match (cs[i]? : Option Value) with | some (Value.int _ k) => UInt8.ofNat k.toNat | _ => 0), ?_, by simp⟩
  apply List.ext_getElem?
  intro i
  by_cases hi : i < n
  · obtain ⟨b, hb⟩ := each i hi
    rw [hb]
    simp only [List.getElem?_map, List.getElem?_range hi, Option.map_some, hb]
    simp [bv]
  · rw [List.getElem?_eq_none (by omega), List.getElem?_eq_none (by simp; omega)]

/-- what is known of a record that came in -/
def Rec.Ok (r : Rec) : Prop := r.hash.length = 32 ∧ (-9223372036854775808 ≤ r.seqn ∧ r.seqn ≤ 9223372036854775807) ∧ (-9223372036854775808 ≤ r.slot ∧ r.slot ≤ 9223372036854775807) ∧ (-9223372036854775808 ≤ r.len ∧ r.len ≤ 9223372036854775807)

set_option maxRecDepth 100000 in
theorem open_rec_cells {fuel : Nat} {cs : List Value} {x : DataW H × List MemPlace} (h : DataW.trod enc Tryz.prog W base sp hd fuel 34 cs = some x) : ∃ r : Rec, cs = (recA r).toList ∧ r.Ok := by
  obtain ⟨xs, n, _, _, hl, hxl, hx⟩ := DataW.trod_struct Tryz.underlying34 h
  have c36 : Tryz.prog.cellsOf 34 = 36 := by kernel_rfl
  have hl' : cs.length = 36 := by rw [hl, c36]
  have hxl' : xs.length = 5 := hxl
  have q0 : DataW.trod enc Tryz.prog W base sp hd n 3 ((cs.drop 0).take (Tryz.prog.cellsOf 3)) = xs[0]? := hx 0 _ rfl
  have q1 : DataW.trod enc Tryz.prog W base sp hd n 3 ((cs.drop 1).take (Tryz.prog.cellsOf 3)) = xs[1]? := hx 1 _ rfl
  have q2 : DataW.trod enc Tryz.prog W base sp hd n 3 ((cs.drop 2).take (Tryz.prog.cellsOf 3)) = xs[2]? := hx 2 _ rfl
  have q3 : DataW.trod enc Tryz.prog W base sp hd n 4 ((cs.drop 3).take (Tryz.prog.cellsOf 4)) = xs[3]? := hx 3 _ rfl
  have q4 : DataW.trod enc Tryz.prog W base sp hd n 32 ((cs.drop 4).take (Tryz.prog.cellsOf 32)) = xs[4]? := hx 4 _ rfl
  rw [List.getElem?_eq_getElem (by omega)] at q0 q1 q2 q3 q4
  have c1 : Tryz.prog.cellsOf 3 = 1 := by kernel_rfl
  have cb : Tryz.prog.cellsOf 4 = 1 := by kernel_rfl
  have ct : Tryz.prog.cellsOf 32 = 32 := by kernel_rfl
  rw [c1] at q0 q1 q2
  rw [cb] at q3
  rw [ct] at q4
  obtain ⟨a, ha, _, wa⟩ := DataW.trod_int Tryz.underlying3 q0
  obtain ⟨b, hb, _, wb⟩ := DataW.trod_int Tryz.underlying3 q1
  obtain ⟨c, hc, _, wc⟩ := DataW.trod_int Tryz.underlying3 q2
  obtain ⟨d, hd', _⟩ := DataW.trod_bool Tryz.underlying4 q3
  obtain ⟨l, hl4, hl5⟩ := open_u8s Tryz.underlying32 Tryz.underlying5 (by kernel_rfl) (by kernel_rfl) q4
  refine ⟨⟨a, b, c, d, l⟩, ?_, hl5, _root_.Go.bounds_i64 wa, _root_.Go.bounds_i64 wb, _root_.Go.bounds_i64 wc⟩
  rw [recA_list]
  have e0 := one_of_take ha
  have e1 := one_of_take hb
  have e2 := one_of_take hc
  have e3 := one_of_take hd'
  have h4 : cs.drop 4 = l.map bv := by
    rw [← hl4, List.take_of_length_le (by simp; omega)]
  rw [← h4]
  match cs, hl', e0, e1, e2, e3 with
  | w :: x :: y :: z :: r, _, e0, e1, e2, e3 =>
    simp only [List.getElem?_cons_zero, List.getElem?_cons_succ, Option.some.injEq] at e0 e1 e2 e3
    subst e0 e1 e2 e3
    rfl

set_option maxRecDepth 100000 in
/-- a parameter that is a record -/
theorem open_rec {r0 : Reach} {b0 : Nat} {v : Value} {d : DataW H} {ps : List MemPlace} (hval : Value.okWide Tryz.prog W r0 b0 34 v) (h : DataW.Trod enc Tryz.prog W base sp hd 34 v d ps) : ∃ r : Rec, v = .agg (recA r) ∧ r.Ok := by
  obtain ⟨cs, rfl, _⟩ := okWide_struct Tryz.underlying34 hval
  obtain ⟨fuel, hf⟩ := h
  obtain ⟨r, hr, ho⟩ := open_rec_cells hf
  refine ⟨r, ?_, ho⟩
  congr 1
  exact Array.toList_inj.1 hr
end
end Go.Proofs.YtgmpacndjmmgjaaGreat
end
section
namespace Go.Proofs.YtgmpacndjmmgjaaGreat
open Go.ChangeShapes Go.WideShapes Go.ChangeAt Go.RowKit
set_option linter.unusedVariables false

section
variable {H : Type} {P : Program}
theorem wt_all {e : TypeId} {d : DataW H} {n : Nat} : ∀ {l : List (DataW H)}, d ∈ l → n ∈ d.weights P e → n ∈ DataW.weightsAll P e l
  | x :: r, h, hn => by
    simp only [DataW.weightsAll, List.mem_append]
    rcases List.mem_cons.1 h with rfl | h
    · exact .inl hn
    · exact .inr (wt_all h hn)
/-- each slice within holds at most the reach's bytes -/
def SizedD (P : Program) (t : TypeId) (d : DataW H) : Prop := ∀ n ∈ d.weights P t, n ≤ reachBytes
theorem SizedD.elem {t e : TypeId} {a b : List (DataW H)} (h : SizedD P t (.slice a b)) (hu : P.underlying t = some (.slice e)) {d : DataW H} (hd : d ∈ a) : SizedD P e d := fun n hn => by
  refine h n ?_
  simp only [DataW.weights, hu, List.mem_cons, List.mem_append]
  exact .inr (.inl (wt_all hd hn))
theorem SizedD.len {t e : TypeId} {a b : List (DataW H)} (h : SizedD P t (.slice a b)) (hu : P.underlying t = some (.slice e)) : (a.length + b.length) * P.bytesOf e ≤ reachBytes := by
  refine h _ ?_
  simp only [DataW.weights, hu, List.mem_cons, true_or]
theorem SizedD.field {t : TypeId} {fs : Array Field} {parts : List (DataW H)} (h : SizedD P t (.agg parts)) (hu : P.underlying t = some (.struct fs)) {i : Nat} {f : Field} {d : DataW H} (hi : fs[i]? = some f) (hd : parts[i]? = some d) : SizedD P f.type d := fun n hn => by
  refine h n ?_
  simp only [DataW.weights, hu]
  refine DataW.weights_mem_each (j := i) (t := f.type) ?_ hd n hn
  rw [List.getElem?_map, Array.getElem?_toList, hi]
  rfl
theorem SizedD.arg {ts : List TypeId} {ds : List (DataW H)} (h : (DataW.weightsEach P ts ds).all (· ≤ reachBytes) = true) {j : Nat} {t : TypeId} {d : DataW H} (ht : ts[j]? = some t) (hd : ds[j]? = some d) : SizedD P t d := fun n hn => by
  have := List.all_eq_true.1 h _ (DataW.weights_mem_each ht hd n hn)
  simpa using this
end
section
variable {H : Type} {enc : TypeId × Value → H} {W : World}
theorem bytes_is {P : Program} {t e : TypeId} {fuel : Nat} {cs : List Value} {x : DataW H × List MemPlace} (ht : P.underlying t = some (.slice e)) (he : P.underlying e = some (.int .u8)) (hc : P.cellsOf e = 1)
    (hf : DataW.trod enc P W 0 (fun _ => true) true fuel t cs = some x) : ∃ (B : Option Addr) (l : List UInt8) (c : Nat), cs = [.slice B l.length c] ∧ Rd W B l ∧ l.length ≤ c ∧ c ≤ maxLen ∧ (P.bytesOf e = 1 → SizedD P t x.1 → c ≤ 140737488351232) := by
  rcases open_ints ht he hc hf with ⟨h0, _⟩ | ⟨a', len', cap', zs, h0, _, hl, hm, hzl, hx, hcell, hwf⟩
  · exact ⟨none, [], 0, h0, Rd.nil _ _, Nat.le_refl _, by simp, fun _ _ => by omega⟩
  · simp only [if_true] at hzl
    have hnum : ∀ n ∈ zs, ((UInt8.ofNat n.toNat).toNat : Int) = n := by
      intro n hn
      obtain ⟨h1, h2⟩ := bounds_u8 (hwf n hn)
      simp only [UInt8.toNat_ofNat']
      omega
    refine ⟨some a', (zs.take len').map (fun n => UInt8.ofNat n.toNat), cap', by rw [h0]; simp [hzl, Nat.min_eq_left hl], ?_, by simp [hzl, hl, Nat.min_eq_left hl], hm, ?_⟩
    · intro i x hx
      rw [List.getElem?_map] at hx
      obtain ⟨n, hn, rfl⟩ := Option.map_eq_some_iff.1 hx
      have hi : i < (zs.take len').length := (List.getElem?_eq_some_iff.1 hn).1
      rw [List.length_take] at hi
      have hn' : zs[i]? = some n := by rw [← hn, List.getElem?_take_of_lt (by omega)]
      obtain ⟨b, off, rfl, hc2⟩ := ints_at hcell (by omega)
      refine ⟨b, off, rfl, ?_⟩
      rw [hc2 i (by omega), List.getD, hn', Option.getD_some, hnum n (List.mem_of_getElem? hn')]
    · intro hb hs
      rw [hx] at hs
      have := hs.len ht
      rw [hb] at this
      simp only [lits, List.length_map, List.length_take, List.length_drop, Nat.mul_one, reachBytes] at this
      omega
end
end Go.Proofs.YtgmpacndjmmgjaaGreat
end
section
namespace Go.Proofs.YtgmpacndjmmgjaaGreat
open Go.ChangeShapes Go.WideShapes Go.ChangeAt Go.RowKit
set_option linter.unusedVariables false

theorem list_of {α : Type} (n : Nat) (P : Nat → α → Prop) (h : ∀ i, i < n → ∃ r, P i r) : ∃ l : List α, l.length = n ∧ ∀ i r, l[i]? = some r → P i r := by
  induction n with
  | zero => exact ⟨[], rfl, fun i r h => by simp at h⟩
  | succ n ih =>
    obtain ⟨l, hl, hp⟩ := ih (fun i hi => h i (by omega))
    obtain ⟨r, hr⟩ := h n (by omega)
    refine ⟨l ++ [r], by simp [hl], fun i x hx => ?_⟩
    by_cases hi : i < l.length
    · rw [List.getElem?_append_left hi] at hx
      exact hp i x hx
    · have hi2 : i < (l ++ [r]).length := (List.getElem?_eq_some_iff.1 hx).1
      obtain rfl : i = n := by simp at hi2; omega
      rw [List.getElem?_append_right (by omega), show i - l.length = 0 by omega] at hx
      simp only [List.getElem?_cons_zero, Option.some.injEq] at hx
      subst hx
      exact hr

/-- an act of a script -/
structure ActV where
  kind : Int
  n : Int
  r : Rec
  A : Option Addr
  c : Nat
  b : List UInt8
def actA (a : ActV) : Array Value := #[.int .i64 a.kind, .int .i64 a.n] ++ recA a.r ++ #[.slice a.A a.b.length a.c]
theorem actA_list (a : ActV) : (actA a).toList = [.int .i64 a.kind, .int .i64 a.n] ++ (recA a.r).toList ++ [.slice a.A a.b.length a.c] := by
  unfold actA
  simp
theorem actA_size (a : ActV) (h : a.r.hash.length = 32) : (actA a).size = 39 := by
  unfold actA
  rw [Array.size_append, Array.size_append, recA_size _ h]
  rfl
theorem actA_0 (a : ActV) : (actA a)[0]? = some (.int .i64 a.kind) := by
  rw [← Array.getElem?_toList, actA_list]; rfl
theorem actA_1 (a : ActV) : (actA a)[1]? = some (.int .i64 a.n) := by
  rw [← Array.getElem?_toList, actA_list]; rfl
theorem actA_rec (a : ActV) (h : a.r.hash.length = 32) (j : Nat) (v : Value) (hv : (recA a.r).toList[j]? = some v) : (actA a)[2 + j]? = some v := by
  have hL : (recA a.r).toList.length = 36 := by rw [Array.length_toList, recA_size _ h]
  have hj := (List.getElem?_eq_some_iff.1 hv).1
  rw [hL] at hj
  rw [← Array.getElem?_toList, actA_list, List.getElem?_append_left (by simp only [List.length_append, hL, List.length_cons, List.length_nil]; omega), List.getElem?_append_right (by simp only [List.length_cons, List.length_nil]; omega)]
  simpa using hv
theorem actA_38 (a : ActV) (h : a.r.hash.length = 32) : (actA a)[38]? = some (.slice a.A a.b.length a.c) := by
  have hL : (recA a.r).toList.length = 36 := by rw [Array.length_toList, recA_size _ h]
  rw [← Array.getElem?_toList, actA_list, List.getElem?_append_right (by simp only [List.length_append, hL, List.length_cons, List.length_nil]; omega)]
  simp only [List.length_append, hL, List.length_cons, List.length_nil]
  rfl
theorem info_act : (Tryz.prog.info? 37).map (·.size) = some 39 := by kernel_rfl
/-- what is known of an act that came in -/
def ActOk (w : World) (a : ActV) : Prop := a.r.Ok ∧ (-9223372036854775808 ≤ a.kind ∧ a.kind ≤ 9223372036854775807) ∧ (-9223372036854775808 ≤ a.n ∧ a.n ≤ 9223372036854775807) ∧ Rd w a.A a.b ∧ a.b.length ≤ 140737488351232
/-- the slice that begins at A holds the acts l -/
def RdA (w : World) (A : Option Addr) (l : List ActV) : Prop :=
  ∀ (i : Nat) (a : ActV), l[i]? = some a → (∃ b o, A = some ⟨b, o, none⟩ ∧ w.rangeAt b (o + i * 39) (actA a).toList) ∧ ActOk w a
theorem rangeA_non {w w' : World} {b o : Nat} {cs : List Value} (hg : Chg Non w w') (h : w.rangeAt b o cs) : w'.rangeAt b o cs := fun j v hv => hg.cell_some (h j v hv) (fun e => e)
theorem RdA.non {w w' : World} {A : Option Addr} {l : List ActV} (h : RdA w A l) (hg : Chg Non w w') : RdA w' A l := by
  intro i a ha
  obtain ⟨⟨b, o, rfl, hc⟩, h1, h2, h3, h4, h5⟩ := h i a ha
  exact ⟨⟨b, o, rfl, rangeA_non hg hc⟩, h1, h2, h3, h4.non hg, h5⟩

section
variable {H : Type} {enc : TypeId × Value → H} {W : World}
set_option maxRecDepth 100000 in
theorem open_act_cells {fuel : Nat} {cs : List Value} {x : DataW H × List MemPlace} (h : DataW.trod enc Tryz.prog W 0 (fun _ => true) true fuel 37 cs = some x) (hsz : SizedD Tryz.prog 37 x.1) : ∃ a : ActV, cs = (actA a).toList ∧ ActOk W a := by
  obtain ⟨xs, n, _, hxe, hl, hxl, hx⟩ := DataW.trod_struct Tryz.underlying37 h
  rw [hxe] at hsz
  have c39 : Tryz.prog.cellsOf 37 = 39 := by kernel_rfl
  have hl' : cs.length = 39 := by rw [hl, c39]
  have hxl' : xs.length = 4 := hxl
  have q0 : DataW.trod enc Tryz.prog W 0 (fun _ => true) true n 3 ((cs.drop 0).take (Tryz.prog.cellsOf 3)) = xs[0]? := hx 0 _ rfl
  have q1 : DataW.trod enc Tryz.prog W 0 (fun _ => true) true n 3 ((cs.drop 1).take (Tryz.prog.cellsOf 3)) = xs[1]? := hx 1 _ rfl
  have q2 : DataW.trod enc Tryz.prog W 0 (fun _ => true) true n 34 ((cs.drop 2).take (Tryz.prog.cellsOf 34)) = xs[2]? := hx 2 _ rfl
  have q3 : DataW.trod enc Tryz.prog W 0 (fun _ => true) true n 35 ((cs.drop 38).take (Tryz.prog.cellsOf 35)) = xs[3]? := hx 3 _ rfl
  rw [List.getElem?_eq_getElem (by omega)] at q0 q1 q2 q3
  have c1 : Tryz.prog.cellsOf 3 = 1 := by kernel_rfl
  have cr : Tryz.prog.cellsOf 34 = 36 := by kernel_rfl
  have cb : Tryz.prog.cellsOf 35 = 1 := by kernel_rfl
  rw [c1] at q0 q1
  rw [cr] at q2
  rw [cb] at q3
  obtain ⟨a, ha, _, wa⟩ := DataW.trod_int Tryz.underlying3 q0
  obtain ⟨b, hb, _, wb⟩ := DataW.trod_int Tryz.underlying3 q1
  obtain ⟨r, hr, hok⟩ := open_rec_cells q2
  obtain ⟨B, l, c, hs, hrd, hlc, hcm, hcs⟩ := bytes_is Tryz.underlying35 Tryz.underlying5 (by kernel_rfl) q3
  have hcs := hcs (by kernel_rfl) (hsz.field Tryz.underlying37 (i := 3) rfl (by rw [List.getElem?_map, List.getElem?_eq_getElem (by omega)]; rfl))
  refine ⟨⟨a, b, r, B, c, l⟩, ?_, hok, _root_.Go.bounds_i64 wa, _root_.Go.bounds_i64 wb, hrd, by show l.length ≤ 140737488351232; omega⟩
  rw [actA_list]
  have e0 := one_of_take ha
  have e1 := one_of_take hb
  have e3 : cs.drop 38 = [.slice B l.length c] := by
    rw [← hs, List.take_of_length_le (by simp; omega)]
  have e2 : cs.drop 2 = (recA r).toList ++ [.slice B l.length c] := by
    rw [← hr, ← e3, ← List.drop_drop (i := 36) (j := 2), List.take_append_drop]
  match cs, hl', e0, e1, e2 with
  | w :: x :: t, _, e0, e1, e2 =>
    simp only [List.getElem?_cons_zero, List.getElem?_cons_succ, Option.some.injEq] at e0 e1
    subst e0 e1
    simp only [List.drop_succ_cons, List.drop_zero] at e2
    subst e2
    rfl

set_option maxRecDepth 100000 in
/-- a parameter that is a slice of acts -/
theorem open_acts {r0 : Reach} {b0 : Nat} {v : Value} {d : DataW H} {ps : List MemPlace} (hval : Value.okWide Tryz.prog W r0 b0 22 v) (h : DataW.Trod enc Tryz.prog W 0 (fun _ => true) true 22 v d ps) (hsz : SizedD Tryz.prog 22 d) :
    ∃ (B : Option Addr) (l : List ActV) (c : Nat), v = .slice B l.length c ∧ RdA W B l ∧ l.length ≤ c ∧ c ≤ maxLen := by
  obtain ⟨a, len, cap, rfl⟩ := okWide_slice Tryz.underlying22 hval
  obtain ⟨fuel, hf⟩ := h
  rcases Go.Deep.open_slice Tryz.underlying22 hf with ⟨h0, _⟩ | ⟨a', len', cap', m, n, Dd, Pl, h0, _, hl, hm, hmm, hdx, hcell⟩
  · simp only [Value.cells, List.cons.injEq, Value.slice.injEq, and_true] at h0
    obtain ⟨rfl, rfl, rfl⟩ := h0
    exact ⟨none, [], 0, rfl, fun i r h => by simp at h, Nat.le_refl _, by simp⟩
  · simp only [Value.cells, List.cons.injEq, Value.slice.injEq, and_true] at h0
    obtain ⟨rfl, rfl, rfl⟩ := h0
    simp only [if_true] at hmm
    obtain ⟨rfl, _⟩ := Prod.mk.inj hdx
    have c39 : Tryz.prog.cellsOf 37 = 39 := by kernel_rfl
    obtain ⟨l, hll, hlp⟩ := list_of len (fun i r => W.cells? 0 (a'.add (i * 39)) 39 = some (actA r).toList ∧ ActOk W r) (fun i hi => by
      obtain ⟨cs', h1, h2⟩ := hcell i (by omega)
      rw [c39] at h1
      obtain ⟨r, hr, ho⟩ := open_act_cells h2 (hsz.elem Tryz.underlying22 (List.mem_map.2 ⟨i, List.mem_range.2 hi, rfl⟩))
      exact ⟨r, by rw [h1, hr], ho⟩)
    refine ⟨some a', l, cap, by rw [hll], ?_, by omega, hm⟩
    intro i r hr
    have hpos : 0 < l.length := by have := (List.getElem?_eq_some_iff.1 hr).1; omega
    obtain ⟨h1, ho⟩ := hlp i r hr
    refine ⟨?_, ho⟩
    obtain ⟨h10, _⟩ := hlp 0 l[0] (List.getElem?_eq_getElem hpos)
    obtain ⟨_, _, hc⟩ := World.cells?_some h1
    obtain ⟨_, _, hc0⟩ := World.cells?_some h10
    have h00 := hc0 0 (by omega)
    rw [Array.getElem?_toList, actA_0] at h00
    obtain ⟨b, off, spot⟩ := a'
    have hspot : spot = none := by
      have := World.cell?_spot h00
      simpa [Addr.add] using this
    subst hspot
    refine ⟨b, off, rfl, fun j v hv => ?_⟩
    have hj : j < 39 := by
      have := (List.getElem?_eq_some_iff.1 hv).1
      rw [Array.length_toList, actA_size r ho.1.1] at this
      exact this
    have := hc j hj
    rw [Go.WideShapes.add_plain, Go.WideShapes.add_plain] at this
    rw [this]
    exact hv
end
end Go.Proofs.YtgmpacndjmmgjaaGreat
end
