/- CommitPlays: one act on both disks.
   Commit records: Get on a disk that is down, or has one sector; the disk's Flushed.
   The document's disk (citadelref06): New.
   CommitPlays: Great; what is read of both disks.
   CommitPlays: the law's walk. -/
import Derived.Test.YtgmpacndjmmgjaaGreatMgCommitPlaysA
import Derived.Test.YtgmpacndjmmgjaaGreatMgCommitPlaysB
import Derived.Test.YtgmpacndjmmgjaaGreatMgCommitPlaysC
import Derived.Test.YtgmpacndjmmgjaaGreatMgCommitPlaysD
section
namespace Go.Proofs.YtgmpacndjmmgjaaGreat
open Go.RowKit
set_option linter.unusedVariables false

/-- what one act comes to -/
def OneP (w0 : World) (pd ps pm p q B n : Nat) (e : Ending) (W : World) : Prop :=
  e = .returned (.bool true) ∧ ∃ D E, Hf w0 pd ps pm p q B D E W ∧ Twin n D E
set_option maxRecDepth 100000 in
set_option maxHeartbeats 4000000 in
theorem one_put (w0 w : World) (pd ps pm p q B n : Nat) (D : Dk) (E : Rk) (k i : Int) (r : Rec) (A : Option Addr) (c : Nat) (b : List UInt8) (h : Hf w0 pd ps pm p q B D E w) (tw : Twin n D E) (hn : 1 ≤ n) (hr : r.Ok) (hi : -9223372036854775808 ≤ i ∧ i ≤ 9223372036854775807) (hb : Rd w0 A b) (hbl : b.length ≤ 5000) (hk : k = 0 ∨ k = 1 ∨ k = 2) :
    Calls Tryz.prog 9 #[.pointer (some ⟨pd, 0, none⟩), .pointer (some ⟨p, 0, none⟩), .agg (actA ⟨k, i, r, A, c, b⟩)] w (OneP w0 pd ps pm p q B n) := by
  have HYS := Lib.hid (actA_size ⟨k, i, r, A, c, b⟩ hr.1)
  have y0 := actA_0 ⟨k, i, r, A, c, b⟩
  have y1 := actA_1 ⟨k, i, r, A, c, b⟩
  have y38 := actA_38 ⟨k, i, r, A, c, b⟩ hr.1
  have HYR := Lib.hid (actA_rec ⟨k, i, r, A, c, b⟩ hr.1)
  have HXS := Lib.hid (recA_size r hr.1)
  have HX := Lib.hid hr
  obtain ⟨Y, hY⟩ : ∃ Y, actA ⟨k, i, r, A, c, b⟩ = Y := ⟨_, rfl⟩
  rw [hY] at HYS y0 y1 y38 HYR ⊢
  simp only at y0 y1 y38 HYR
  have HBox : Hid (∀ W, Chg (BS pd ps pm p q) (w.alloc (.cells Y 37)) W → W.heap[w.heap.size]? = some (.cells Y 37 (0, 0))) := Lib.hid (fun W hg => by
    refine (hg.block _ (by simp) (fun e => ?_)).trans (heap_alloc_new _ _)
    have := h.ltd _ e
    omega)
  have HRng : Hid (∀ W : World, W.heap[w.heap.size]? = some (.cells Y 37 (0, 0)) → W.rangeAt w.heap.size 2 (recA r).toList) := Lib.hid (fun W hw j v hv => by
    rw [cell_of_row _ _ _ _ _ _ hw]
    exact HYR.out j v hv)
  obtain ⟨X, hX⟩ : ∃ X, recA r = X := ⟨_, rfl⟩
  have HXX := Lib.hid hX
  rw [hX] at HXS HRng
  have HH := Lib.hid (h.non ((Chg.refl Non w).alloc (.cells Y 37)))
  have HT := Lib.hid tw
  have HBR := Lib.hid hb
  clear hX hY HYR h tw hb hr
  have hsame := twin_put HT.out r
  have hsz := sz_put HT.out.sz r
  have hrl := rlen_put E r
  have HD := Lib.hid (fun W (hg : Hf w0 pd ps pm p q B D E W) => hf_dput hg HT.out.sz (by rw [HT.out.dlen]; omega) r HX.out.1 HX.out.2.1.2)
  obtain ⟨⟨D', v⟩, hD'⟩ : ∃ x, cPut D r = x := ⟨_, rfl⟩
  obtain ⟨⟨E', v'⟩, hE'⟩ : ∃ x, rPutV E r = x := ⟨_, rfl⟩
  have HE := Lib.hid (fun W (hg : Hf w0 pd ps pm p q B D' E W) => hf_rput hg HT.out.rsz r HX.out.1 HX.out.2.1.2)
  simp only [hD'] at HD hsame hsz
  simp only [hE'] at HE hsame hrl
  obtain ⟨hsame, rfl⟩ := hsame
  have HS := Lib.hid (And.intro hsame (And.intro hsz hrl))
  clear hD' hE' hsame hsz hrl
  simp only [HXX.out] at HD HE
  rcases hk with rfl | rfl | rfl
  · skip
    go_enter Tryz.func9, Tryz.ntmps9
    go_wp2_with (first
      | (refine sel (some 23) (.load 34 (.tmp 22)) ?_; refine wpList_load_rec rfl (.tmp 22) rfl w.heap.size 2 rfl X (HRng.out _ (heap_alloc_new _ _)) HXS.out ?_))
    refine (HD.out _ HH.out).mono ?_
    rintro e u ⟨rfl, hH, hg⟩
    have HH1 := Lib.hid hH
    have HG := Lib.hid hg
    clear hH hg
    have hw := HBox.out u HG.out
    have q1 : u.cell? ⟨w.heap.size, 1, none⟩ = some (.int .i64 i) := by rw [cell_of_row _ _ _ _ _ _ hw]; exact y1
    have q38 : u.cell? ⟨w.heap.size, 38, none⟩ = some (.slice A b.length c) := by rw [cell_of_row _ _ _ _ _ _ hw]; exact y38
    have HW := Lib.hid hw
    clear hw
    go_wp2_with (first
      | (refine sel (some 28) (.load 34 (.tmp 27)) ?_; refine wpList_load_rec rfl (.tmp 27) rfl w.heap.size 2 rfl X (HRng.out _ HW.out) HXS.out ?_))
    refine (HE.out _ HH1.out).mono ?_
    rintro e u2 ⟨rfl, hH, hg⟩
    have HH2 := Lib.hid hH
    clear hH hg
    go_wp2_with fail
    go_ret
    refine ⟨rfl, D', E', HH2.out, ⟨HH2.out.dk.1, HS.out.2.1, HS.out.1, by rw [HS.out.2.2]; exact HT.out.len⟩⟩
  · skip
    go_enter Tryz.func9, Tryz.ntmps9
    go_wp2_with (first
      | (refine sel (some 23) (.load 34 (.tmp 22)) ?_; refine wpList_load_rec rfl (.tmp 22) rfl w.heap.size 2 rfl X (HRng.out _ (heap_alloc_new _ _)) HXS.out ?_))
    refine (HD.out _ HH.out).mono ?_
    rintro e u ⟨rfl, hH, hg⟩
    have HH1 := Lib.hid hH
    have HG := Lib.hid hg
    clear hH hg
    have hw := HBox.out u HG.out
    have q1 : u.cell? ⟨w.heap.size, 1, none⟩ = some (.int .i64 i) := by rw [cell_of_row _ _ _ _ _ _ hw]; exact y1
    have q38 : u.cell? ⟨w.heap.size, 38, none⟩ = some (.slice A b.length c) := by rw [cell_of_row _ _ _ _ _ _ hw]; exact y38
    have HW := Lib.hid hw
    clear hw
    go_wp2_with (first
      | (refine sel (some 28) (.load 34 (.tmp 27)) ?_; refine wpList_load_rec rfl (.tmp 27) rfl w.heap.size 2 rfl X (HRng.out _ HW.out) HXS.out ?_))
    refine (HE.out _ HH1.out).mono ?_
    rintro e u2 ⟨rfl, hH, hg⟩
    have HH2 := Lib.hid hH
    clear hH hg
    go_wp2_with fail
    go_ret
    refine ⟨rfl, D', E', HH2.out, ⟨HH2.out.dk.1, HS.out.2.1, HS.out.1, by rw [HS.out.2.2]; exact HT.out.len⟩⟩
  · skip
    go_enter Tryz.func9, Tryz.ntmps9
    go_wp2_with (first
      | (refine sel (some 23) (.load 34 (.tmp 22)) ?_; refine wpList_load_rec rfl (.tmp 22) rfl w.heap.size 2 rfl X (HRng.out _ (heap_alloc_new _ _)) HXS.out ?_))
    refine (HD.out _ HH.out).mono ?_
    rintro e u ⟨rfl, hH, hg⟩
    have HH1 := Lib.hid hH
    have HG := Lib.hid hg
    clear hH hg
    have hw := HBox.out u HG.out
    have q1 : u.cell? ⟨w.heap.size, 1, none⟩ = some (.int .i64 i) := by rw [cell_of_row _ _ _ _ _ _ hw]; exact y1
    have q38 : u.cell? ⟨w.heap.size, 38, none⟩ = some (.slice A b.length c) := by rw [cell_of_row _ _ _ _ _ _ hw]; exact y38
    have HW := Lib.hid hw
    clear hw
    go_wp2_with (first
      | (refine sel (some 28) (.load 34 (.tmp 27)) ?_; refine wpList_load_rec rfl (.tmp 27) rfl w.heap.size 2 rfl X (HRng.out _ HW.out) HXS.out ?_))
    refine (HE.out _ HH1.out).mono ?_
    rintro e u2 ⟨rfl, hH, hg⟩
    have HH2 := Lib.hid hH
    clear hH hg
    go_wp2_with fail
    go_ret
    refine ⟨rfl, D', E', HH2.out, ⟨HH2.out.dk.1, HS.out.2.1, HS.out.1, by rw [HS.out.2.2]; exact HT.out.len⟩⟩
set_option maxRecDepth 100000 in
set_option maxHeartbeats 4000000 in
theorem one_write (w0 w : World) (pd ps pm p q B n : Nat) (D : Dk) (E : Rk) (k i : Int) (r : Rec) (A : Option Addr) (c : Nat) (b : List UInt8) (h : Hf w0 pd ps pm p q B D E w) (tw : Twin n D E) (hn : 1 ≤ n) (hr : r.Ok) (hi : -9223372036854775808 ≤ i ∧ i ≤ 9223372036854775807) (hb : Rd w0 A b) (hbl : b.length ≤ 5000) (hk : k = 3) :
    Calls Tryz.prog 9 #[.pointer (some ⟨pd, 0, none⟩), .pointer (some ⟨p, 0, none⟩), .agg (actA ⟨k, i, r, A, c, b⟩)] w (OneP w0 pd ps pm p q B n) := by
  have HYS := Lib.hid (actA_size ⟨k, i, r, A, c, b⟩ hr.1)
  have y0 := actA_0 ⟨k, i, r, A, c, b⟩
  have y1 := actA_1 ⟨k, i, r, A, c, b⟩
  have y38 := actA_38 ⟨k, i, r, A, c, b⟩ hr.1
  have HYR := Lib.hid (actA_rec ⟨k, i, r, A, c, b⟩ hr.1)
  have HXS := Lib.hid (recA_size r hr.1)
  have HX := Lib.hid hr
  obtain ⟨Y, hY⟩ : ∃ Y, actA ⟨k, i, r, A, c, b⟩ = Y := ⟨_, rfl⟩
  rw [hY] at HYS y0 y1 y38 HYR ⊢
  simp only at y0 y1 y38 HYR
  have HBox : Hid (∀ W, Chg (BS pd ps pm p q) (w.alloc (.cells Y 37)) W → W.heap[w.heap.size]? = some (.cells Y 37 (0, 0))) := Lib.hid (fun W hg => by
    refine (hg.block _ (by simp) (fun e => ?_)).trans (heap_alloc_new _ _)
    have := h.ltd _ e
    omega)
  have HRng : Hid (∀ W : World, W.heap[w.heap.size]? = some (.cells Y 37 (0, 0)) → W.rangeAt w.heap.size 2 (recA r).toList) := Lib.hid (fun W hw j v hv => by
    rw [cell_of_row _ _ _ _ _ _ hw]
    exact HYR.out j v hv)
  obtain ⟨X, hX⟩ : ∃ X, recA r = X := ⟨_, rfl⟩
  have HXX := Lib.hid hX
  rw [hX] at HXS HRng
  have HH := Lib.hid (h.non ((Chg.refl Non w).alloc (.cells Y 37)))
  have HT := Lib.hid tw
  have HBR := Lib.hid hb
  clear hX hY HYR h tw hb hr
  have hsame := write_same HT.out.ok HT.out.same i b
  have hsz := cwrite_sz HT.out.sz i b
  have hrl := rlen_write E i b
  have HD := Lib.hid (fun W (hg : Hf w0 pd ps pm p q B D E W) => hf_dwrite hg HT.out.sz i A b c (HBR.out.non hg.chg) (fun x o e hl => by have := hg.off HBR.out x o e hl; have := hg.lo; omega))
  obtain ⟨⟨D', v⟩, hD'⟩ : ∃ x, D.write i b = x := ⟨_, rfl⟩
  obtain ⟨⟨E', v'⟩, hE'⟩ : ∃ x, E.write i b = x := ⟨_, rfl⟩
  have HE := Lib.hid (fun W (hg : Hf w0 pd ps pm p q B D' E W) => hf_rwrite hg HT.out.rsz i A b c (HBR.out.non hg.chg) (by omega))
  simp only [hD'] at HD hsame hsz
  simp only [hE'] at HE hsame hrl
  obtain ⟨hsame, rfl⟩ := hsame
  have HS := Lib.hid (And.intro hsame (And.intro hsz hrl))
  clear hD' hE' hsame hsz hrl
  subst hk
  go_enter Tryz.func9, Tryz.ntmps9
  go_wp2_with fail
  refine (HD.out _ HH.out).mono ?_
  rintro e u ⟨rfl, hH, hg⟩
  have HH1 := Lib.hid hH
  have HG := Lib.hid hg
  clear hH hg
  have hw := HBox.out u HG.out
  have q1 : u.cell? ⟨w.heap.size, 1, none⟩ = some (.int .i64 i) := by rw [cell_of_row _ _ _ _ _ _ hw]; exact y1
  have q38 : u.cell? ⟨w.heap.size, 38, none⟩ = some (.slice A b.length c) := by rw [cell_of_row _ _ _ _ _ _ hw]; exact y38
  have HW := Lib.hid hw
  clear hw
  go_wp2_with fail
  refine (HE.out _ HH1.out).mono ?_
  rintro e u2 ⟨rfl, hH, hg⟩
  have HH2 := Lib.hid hH
  clear hH hg
  go_wp2_with fail
  go_ret
  refine ⟨rfl, D', E', HH2.out, ⟨HH2.out.dk.1, HS.out.2.1, HS.out.1, by rw [HS.out.2.2]; exact HT.out.len⟩⟩
set_option maxRecDepth 100000 in
set_option maxHeartbeats 4000000 in
theorem one_flush (w0 w : World) (pd ps pm p q B n : Nat) (D : Dk) (E : Rk) (k i : Int) (r : Rec) (A : Option Addr) (c : Nat) (b : List UInt8) (h : Hf w0 pd ps pm p q B D E w) (tw : Twin n D E) (hn : 1 ≤ n) (hr : r.Ok) (hi : -9223372036854775808 ≤ i ∧ i ≤ 9223372036854775807) (hb : Rd w0 A b) (hbl : b.length ≤ 5000) (hk : k = 4) :
    Calls Tryz.prog 9 #[.pointer (some ⟨pd, 0, none⟩), .pointer (some ⟨p, 0, none⟩), .agg (actA ⟨k, i, r, A, c, b⟩)] w (OneP w0 pd ps pm p q B n) := by
  have HYS := Lib.hid (actA_size ⟨k, i, r, A, c, b⟩ hr.1)
  have y0 := actA_0 ⟨k, i, r, A, c, b⟩
  have y1 := actA_1 ⟨k, i, r, A, c, b⟩
  have y38 := actA_38 ⟨k, i, r, A, c, b⟩ hr.1
  have HYR := Lib.hid (actA_rec ⟨k, i, r, A, c, b⟩ hr.1)
  have HXS := Lib.hid (recA_size r hr.1)
  have HX := Lib.hid hr
  obtain ⟨Y, hY⟩ : ∃ Y, actA ⟨k, i, r, A, c, b⟩ = Y := ⟨_, rfl⟩
  rw [hY] at HYS y0 y1 y38 HYR ⊢
  simp only at y0 y1 y38 HYR
  have HBox : Hid (∀ W, Chg (BS pd ps pm p q) (w.alloc (.cells Y 37)) W → W.heap[w.heap.size]? = some (.cells Y 37 (0, 0))) := Lib.hid (fun W hg => by
    refine (hg.block _ (by simp) (fun e => ?_)).trans (heap_alloc_new _ _)
    have := h.ltd _ e
    omega)
  have HRng : Hid (∀ W : World, W.heap[w.heap.size]? = some (.cells Y 37 (0, 0)) → W.rangeAt w.heap.size 2 (recA r).toList) := Lib.hid (fun W hw j v hv => by
    rw [cell_of_row _ _ _ _ _ _ hw]
    exact HYR.out j v hv)
  obtain ⟨X, hX⟩ : ∃ X, recA r = X := ⟨_, rfl⟩
  have HXX := Lib.hid hX
  rw [hX] at HXS HRng
  have HH := Lib.hid (h.non ((Chg.refl Non w).alloc (.cells Y 37)))
  have HT := Lib.hid tw
  have HBR := Lib.hid hb
  clear hX hY HYR h tw hb hr
  have hsame := flush_same HT.out.ok HT.out.same
  have hsz := sz_flush HT.out.sz
  have hrl := rlen_flush E
  have HD := Lib.hid (fun W (hg : Hf w0 pd ps pm p q B D E W) => hf_dflush hg HT.out.sz)
  obtain ⟨⟨D', v⟩, hD'⟩ : ∃ x, D.flush = x := ⟨_, rfl⟩
  obtain ⟨⟨E', v'⟩, hE'⟩ : ∃ x, E.flush = x := ⟨_, rfl⟩
  have HE := Lib.hid (fun W (hg : Hf w0 pd ps pm p q B D' E W) => hf_rflush hg HT.out.rsz)
  simp only [hD'] at HD hsame hsz
  simp only [hE'] at HE hsame hrl
  obtain ⟨hsame, rfl⟩ := hsame
  have HS := Lib.hid (And.intro hsame (And.intro hsz hrl))
  clear hD' hE' hsame hsz hrl
  subst hk
  go_enter Tryz.func9, Tryz.ntmps9
  go_wp2_with fail
  refine (HD.out _ HH.out).mono ?_
  rintro e u ⟨rfl, hH, hg⟩
  have HH1 := Lib.hid hH
  have HG := Lib.hid hg
  clear hH hg
  have hw := HBox.out u HG.out
  have q1 : u.cell? ⟨w.heap.size, 1, none⟩ = some (.int .i64 i) := by rw [cell_of_row _ _ _ _ _ _ hw]; exact y1
  have q38 : u.cell? ⟨w.heap.size, 38, none⟩ = some (.slice A b.length c) := by rw [cell_of_row _ _ _ _ _ _ hw]; exact y38
  have HW := Lib.hid hw
  clear hw
  go_wp2_with fail
  refine (HE.out _ HH1.out).mono ?_
  rintro e u2 ⟨rfl, hH, hg⟩
  have HH2 := Lib.hid hH
  clear hH hg
  go_wp2_with fail
  go_ret
  refine ⟨rfl, D', E', HH2.out, ⟨HH2.out.dk.1, HS.out.2.1, HS.out.1, by rw [HS.out.2.2]; exact HT.out.len⟩⟩
set_option maxRecDepth 100000 in
set_option maxHeartbeats 4000000 in
theorem one_crash (w0 w : World) (pd ps pm p q B n : Nat) (D : Dk) (E : Rk) (k i : Int) (r : Rec) (A : Option Addr) (c : Nat) (b : List UInt8) (h : Hf w0 pd ps pm p q B D E w) (tw : Twin n D E) (hn : 1 ≤ n) (hr : r.Ok) (hi : -9223372036854775808 ≤ i ∧ i ≤ 9223372036854775807) (hb : Rd w0 A b) (hbl : b.length ≤ 5000) (hk : k = 5) :
    Calls Tryz.prog 9 #[.pointer (some ⟨pd, 0, none⟩), .pointer (some ⟨p, 0, none⟩), .agg (actA ⟨k, i, r, A, c, b⟩)] w (OneP w0 pd ps pm p q B n) := by
  have HYS := Lib.hid (actA_size ⟨k, i, r, A, c, b⟩ hr.1)
  have y0 := actA_0 ⟨k, i, r, A, c, b⟩
  have y1 := actA_1 ⟨k, i, r, A, c, b⟩
  have y38 := actA_38 ⟨k, i, r, A, c, b⟩ hr.1
  have HYR := Lib.hid (actA_rec ⟨k, i, r, A, c, b⟩ hr.1)
  have HXS := Lib.hid (recA_size r hr.1)
  have HX := Lib.hid hr
  obtain ⟨Y, hY⟩ : ∃ Y, actA ⟨k, i, r, A, c, b⟩ = Y := ⟨_, rfl⟩
  rw [hY] at HYS y0 y1 y38 HYR ⊢
  simp only at y0 y1 y38 HYR
  have HBox : Hid (∀ W, Chg (BS pd ps pm p q) (w.alloc (.cells Y 37)) W → W.heap[w.heap.size]? = some (.cells Y 37 (0, 0))) := Lib.hid (fun W hg => by
    refine (hg.block _ (by simp) (fun e => ?_)).trans (heap_alloc_new _ _)
    have := h.ltd _ e
    omega)
  have HRng : Hid (∀ W : World, W.heap[w.heap.size]? = some (.cells Y 37 (0, 0)) → W.rangeAt w.heap.size 2 (recA r).toList) := Lib.hid (fun W hw j v hv => by
    rw [cell_of_row _ _ _ _ _ _ hw]
    exact HYR.out j v hv)
  obtain ⟨X, hX⟩ : ∃ X, recA r = X := ⟨_, rfl⟩
  have HXX := Lib.hid hX
  rw [hX] at HXS HRng
  have HH := Lib.hid (h.non ((Chg.refl Non w).alloc (.cells Y 37)))
  have HT := Lib.hid tw
  have HBR := Lib.hid hb
  clear hX hY HYR h tw hb hr
  have hsame := crash_same HT.out.ok HT.out.same b
  have hsz := sz_crash HT.out.sz b
  have hrl := rlen_crash E b
  have HD := Lib.hid (fun W (hg : Hf w0 pd ps pm p q B D E W) => hf_dcrash hg A b c HBR.out (by omega))
  obtain ⟨⟨D', v⟩, hD'⟩ : ∃ x, D.crash b = x := ⟨_, rfl⟩
  obtain ⟨⟨E', v'⟩, hE'⟩ : ∃ x, E.crash b = x := ⟨_, rfl⟩
  have HE := Lib.hid (fun W (hg : Hf w0 pd ps pm p q B D' E W) => hf_rcrash hg HT.out.rsz A b c HBR.out (by omega))
  simp only [hD'] at HD hsame hsz
  simp only [hE'] at HE hsame hrl
  obtain ⟨hsame, rfl⟩ := hsame
  have HS := Lib.hid (And.intro hsame (And.intro hsz hrl))
  clear hD' hE' hsame hsz hrl
  subst hk
  go_enter Tryz.func9, Tryz.ntmps9
  go_wp2_with fail
  refine (HD.out _ HH.out).mono ?_
  rintro e u ⟨rfl, hH, hg⟩
  have HH1 := Lib.hid hH
  have HG := Lib.hid hg
  clear hH hg
  have hw := HBox.out u HG.out
  have q1 : u.cell? ⟨w.heap.size, 1, none⟩ = some (.int .i64 i) := by rw [cell_of_row _ _ _ _ _ _ hw]; exact y1
  have q38 : u.cell? ⟨w.heap.size, 38, none⟩ = some (.slice A b.length c) := by rw [cell_of_row _ _ _ _ _ _ hw]; exact y38
  have HW := Lib.hid hw
  clear hw
  go_wp2_with fail
  refine (HE.out _ HH1.out).mono ?_
  rintro e u2 ⟨rfl, hH, hg⟩
  have HH2 := Lib.hid hH
  clear hH hg
  go_wp2_with fail
  go_ret
  refine ⟨rfl, D', E', HH2.out, ⟨HH2.out.dk.1, HS.out.2.1, HS.out.1, by rw [HS.out.2.2]; exact HT.out.len⟩⟩
set_option maxRecDepth 100000 in
set_option maxHeartbeats 4000000 in
theorem one_start (w0 w : World) (pd ps pm p q B n : Nat) (D : Dk) (E : Rk) (k i : Int) (r : Rec) (A : Option Addr) (c : Nat) (b : List UInt8) (h : Hf w0 pd ps pm p q B D E w) (tw : Twin n D E) (hn : 1 ≤ n) (hr : r.Ok) (hi : -9223372036854775808 ≤ i ∧ i ≤ 9223372036854775807) (hb : Rd w0 A b) (hbl : b.length ≤ 5000) (hk : k = 6) :
    Calls Tryz.prog 9 #[.pointer (some ⟨pd, 0, none⟩), .pointer (some ⟨p, 0, none⟩), .agg (actA ⟨k, i, r, A, c, b⟩)] w (OneP w0 pd ps pm p q B n) := by
  have HYS := Lib.hid (actA_size ⟨k, i, r, A, c, b⟩ hr.1)
  have y0 := actA_0 ⟨k, i, r, A, c, b⟩
  have y1 := actA_1 ⟨k, i, r, A, c, b⟩
  have y38 := actA_38 ⟨k, i, r, A, c, b⟩ hr.1
  have HYR := Lib.hid (actA_rec ⟨k, i, r, A, c, b⟩ hr.1)
  have HXS := Lib.hid (recA_size r hr.1)
  have HX := Lib.hid hr
  obtain ⟨Y, hY⟩ : ∃ Y, actA ⟨k, i, r, A, c, b⟩ = Y := ⟨_, rfl⟩
  rw [hY] at HYS y0 y1 y38 HYR ⊢
  simp only at y0 y1 y38 HYR
  have HBox : Hid (∀ W, Chg (BS pd ps pm p q) (w.alloc (.cells Y 37)) W → W.heap[w.heap.size]? = some (.cells Y 37 (0, 0))) := Lib.hid (fun W hg => by
    refine (hg.block _ (by simp) (fun e => ?_)).trans (heap_alloc_new _ _)
    have := h.ltd _ e
    omega)
  have HRng : Hid (∀ W : World, W.heap[w.heap.size]? = some (.cells Y 37 (0, 0)) → W.rangeAt w.heap.size 2 (recA r).toList) := Lib.hid (fun W hw j v hv => by
    rw [cell_of_row _ _ _ _ _ _ hw]
    exact HYR.out j v hv)
  obtain ⟨X, hX⟩ : ∃ X, recA r = X := ⟨_, rfl⟩
  have HXX := Lib.hid hX
  rw [hX] at HXS HRng
  have HH := Lib.hid (h.non ((Chg.refl Non w).alloc (.cells Y 37)))
  have HT := Lib.hid tw
  have HBR := Lib.hid hb
  clear hX hY HYR h tw hb hr
  have hsame := start_same HT.out.same
  have hsz := sz_start HT.out.sz
  have hrl := rlen_start E
  have HD := Lib.hid (fun W (hg : Hf w0 pd ps pm p q B D E W) => hf_dstart hg)
  obtain ⟨⟨D', v⟩, hD'⟩ : ∃ x, D.start = x := ⟨_, rfl⟩
  obtain ⟨⟨E', v'⟩, hE'⟩ : ∃ x, E.start = x := ⟨_, rfl⟩
  have HE := Lib.hid (fun W (hg : Hf w0 pd ps pm p q B D' E W) => hf_rstart hg)
  simp only [hD'] at HD hsame hsz
  simp only [hE'] at HE hsame hrl
  obtain ⟨hsame, rfl⟩ := hsame
  have HS := Lib.hid (And.intro hsame (And.intro hsz hrl))
  clear hD' hE' hsame hsz hrl
  subst hk
  go_enter Tryz.func9, Tryz.ntmps9
  go_wp2_with fail
  refine (HD.out _ HH.out).mono ?_
  rintro e u ⟨rfl, hH, hg⟩
  have HH1 := Lib.hid hH
  have HG := Lib.hid hg
  clear hH hg
  have hw := HBox.out u HG.out
  have q1 : u.cell? ⟨w.heap.size, 1, none⟩ = some (.int .i64 i) := by rw [cell_of_row _ _ _ _ _ _ hw]; exact y1
  have q38 : u.cell? ⟨w.heap.size, 38, none⟩ = some (.slice A b.length c) := by rw [cell_of_row _ _ _ _ _ _ hw]; exact y38
  have HW := Lib.hid hw
  clear hw
  go_wp2_with fail
  refine (HE.out _ HH1.out).mono ?_
  rintro e u2 ⟨rfl, hH, hg⟩
  have HH2 := Lib.hid hH
  clear hH hg
  go_wp2_with fail
  go_ret
  refine ⟨rfl, D', E', HH2.out, ⟨HH2.out.dk.1, HS.out.2.1, HS.out.1, by rw [HS.out.2.2]; exact HT.out.len⟩⟩
set_option maxRecDepth 100000 in
set_option maxHeartbeats 4000000 in
theorem one_arm (w0 w : World) (pd ps pm p q B n : Nat) (D : Dk) (E : Rk) (k i : Int) (r : Rec) (A : Option Addr) (c : Nat) (b : List UInt8) (h : Hf w0 pd ps pm p q B D E w) (tw : Twin n D E) (hn : 1 ≤ n) (hr : r.Ok) (hi : -9223372036854775808 ≤ i ∧ i ≤ 9223372036854775807) (hb : Rd w0 A b) (hbl : b.length ≤ 5000) (hk : k = 7) :
    Calls Tryz.prog 9 #[.pointer (some ⟨pd, 0, none⟩), .pointer (some ⟨p, 0, none⟩), .agg (actA ⟨k, i, r, A, c, b⟩)] w (OneP w0 pd ps pm p q B n) := by
  have HYS := Lib.hid (actA_size ⟨k, i, r, A, c, b⟩ hr.1)
  have y0 := actA_0 ⟨k, i, r, A, c, b⟩
  have y1 := actA_1 ⟨k, i, r, A, c, b⟩
  have y38 := actA_38 ⟨k, i, r, A, c, b⟩ hr.1
  have HYR := Lib.hid (actA_rec ⟨k, i, r, A, c, b⟩ hr.1)
  have HXS := Lib.hid (recA_size r hr.1)
  have HX := Lib.hid hr
  obtain ⟨Y, hY⟩ : ∃ Y, actA ⟨k, i, r, A, c, b⟩ = Y := ⟨_, rfl⟩
  rw [hY] at HYS y0 y1 y38 HYR ⊢
  simp only at y0 y1 y38 HYR
  have HBox : Hid (∀ W, Chg (BS pd ps pm p q) (w.alloc (.cells Y 37)) W → W.heap[w.heap.size]? = some (.cells Y 37 (0, 0))) := Lib.hid (fun W hg => by
    refine (hg.block _ (by simp) (fun e => ?_)).trans (heap_alloc_new _ _)
    have := h.ltd _ e
    omega)
  have HRng : Hid (∀ W : World, W.heap[w.heap.size]? = some (.cells Y 37 (0, 0)) → W.rangeAt w.heap.size 2 (recA r).toList) := Lib.hid (fun W hw j v hv => by
    rw [cell_of_row _ _ _ _ _ _ hw]
    exact HYR.out j v hv)
  obtain ⟨X, hX⟩ : ∃ X, recA r = X := ⟨_, rfl⟩
  have HXX := Lib.hid hX
  rw [hX] at HXS HRng
  have HH := Lib.hid (h.non ((Chg.refl Non w).alloc (.cells Y 37)))
  have HT := Lib.hid tw
  have HBR := Lib.hid hb
  clear hX hY HYR h tw hb hr
  have hsame := arm_same HT.out.same i b
  have hsz := sz_arm HT.out.sz i b hi.2 (by omega)
  have hrl := rlen_arm E i b
  have HD := Lib.hid (fun W (hg : Hf w0 pd ps pm p q B D E W) => hf_darm hg i A b c HBR.out (by omega))
  obtain ⟨⟨D', v⟩, hD'⟩ : ∃ x, D.arm i b = x := ⟨_, rfl⟩
  obtain ⟨⟨E', v'⟩, hE'⟩ : ∃ x, E.arm i b = x := ⟨_, rfl⟩
  have HE := Lib.hid (fun W (hg : Hf w0 pd ps pm p q B D' E W) => hf_rarm hg i A b c HBR.out (by omega))
  simp only [hD'] at HD hsame hsz
  simp only [hE'] at HE hsame hrl
  obtain ⟨hsame, rfl⟩ := hsame
  have HS := Lib.hid (And.intro hsame (And.intro hsz hrl))
  clear hD' hE' hsame hsz hrl
  subst hk
  go_enter Tryz.func9, Tryz.ntmps9
  go_wp2_with fail
  refine (HD.out _ HH.out).mono ?_
  rintro e u ⟨rfl, hH, hg⟩
  have HH1 := Lib.hid hH
  have HG := Lib.hid hg
  clear hH hg
  have hw := HBox.out u HG.out
  have q1 : u.cell? ⟨w.heap.size, 1, none⟩ = some (.int .i64 i) := by rw [cell_of_row _ _ _ _ _ _ hw]; exact y1
  have q38 : u.cell? ⟨w.heap.size, 38, none⟩ = some (.slice A b.length c) := by rw [cell_of_row _ _ _ _ _ _ hw]; exact y38
  have HW := Lib.hid hw
  clear hw
  go_wp2_with fail
  refine (HE.out _ HH1.out).mono ?_
  rintro e u2 ⟨rfl, hH, hg⟩
  have HH2 := Lib.hid hH
  clear hH hg
  go_wp2_with fail
  go_ret
  refine ⟨rfl, D', E', HH2.out, ⟨HH2.out.dk.1, HS.out.2.1, HS.out.1, by rw [HS.out.2.2]; exact HT.out.len⟩⟩
set_option maxRecDepth 100000 in
set_option maxHeartbeats 4000000 in
theorem one_sector (w0 w : World) (pd ps pm p q B n : Nat) (D : Dk) (E : Rk) (k i : Int) (r : Rec) (A : Option Addr) (c : Nat) (b : List UInt8) (h : Hf w0 pd ps pm p q B D E w) (tw : Twin n D E) (hn : 1 ≤ n) (hr : r.Ok) (hi : -9223372036854775808 ≤ i ∧ i ≤ 9223372036854775807) (hb : Rd w0 A b) (hbl : b.length ≤ 5000) (hk : k = 8) :
    Calls Tryz.prog 9 #[.pointer (some ⟨pd, 0, none⟩), .pointer (some ⟨p, 0, none⟩), .agg (actA ⟨k, i, r, A, c, b⟩)] w (OneP w0 pd ps pm p q B n) := by
  have HYS := Lib.hid (actA_size ⟨k, i, r, A, c, b⟩ hr.1)
  have y0 := actA_0 ⟨k, i, r, A, c, b⟩
  have y1 := actA_1 ⟨k, i, r, A, c, b⟩
  have y38 := actA_38 ⟨k, i, r, A, c, b⟩ hr.1
  have HYR := Lib.hid (actA_rec ⟨k, i, r, A, c, b⟩ hr.1)
  have HXS := Lib.hid (recA_size r hr.1)
  have HX := Lib.hid hr
  obtain ⟨Y, hY⟩ : ∃ Y, actA ⟨k, i, r, A, c, b⟩ = Y := ⟨_, rfl⟩
  rw [hY] at HYS y0 y1 y38 HYR ⊢
  simp only at y0 y1 y38 HYR
  have HBox : Hid (∀ W, Chg (BS pd ps pm p q) (w.alloc (.cells Y 37)) W → W.heap[w.heap.size]? = some (.cells Y 37 (0, 0))) := Lib.hid (fun W hg => by
    refine (hg.block _ (by simp) (fun e => ?_)).trans (heap_alloc_new _ _)
    have := h.ltd _ e
    omega)
  have HRng : Hid (∀ W : World, W.heap[w.heap.size]? = some (.cells Y 37 (0, 0)) → W.rangeAt w.heap.size 2 (recA r).toList) := Lib.hid (fun W hw j v hv => by
    rw [cell_of_row _ _ _ _ _ _ hw]
    exact HYR.out j v hv)
  obtain ⟨X, hX⟩ : ∃ X, recA r = X := ⟨_, rfl⟩
  have HXX := Lib.hid hX
  rw [hX] at HXS HRng
  have HH := Lib.hid (h.non ((Chg.refl Non w).alloc (.cells Y 37)))
  have HT := Lib.hid tw
  have HLT := Lib.hid h.ltd
  have HBR := Lib.hid hb
  clear hX hY HYR h tw hb hr
  have hsl := sealL_len 1 (recFormU r) (by simp [recFormU, be_length, HX.out.1])
  have HSe := Lib.hid (fun W => rSector r W HX.out.1)
  have hsame := write_same HT.out.ok HT.out.same i (sealL 1 (recFormU r))
  have hsz := cwrite_sz HT.out.sz i (sealL 1 (recFormU r))
  have hrl := rlen_write E i (sealL 1 (recFormU r))
  have HD := Lib.hid (fun W (hg : Hf w0 pd ps pm p q B D E W) A2 c2 (h2 : Rd W A2 (sealL 1 (recFormU r))) (h3 : ∀ x o, A2 = some ⟨x, o, none⟩ → sealL 1 (recFormU r) ≠ [] → x ≠ pd) => hf_dwrite hg HT.out.sz i A2 (sealL 1 (recFormU r)) c2 h2 h3)
  obtain ⟨⟨D', v⟩, hD'⟩ : ∃ x, D.write i (sealL 1 (recFormU r)) = x := ⟨_, rfl⟩
  obtain ⟨⟨E', v'⟩, hE'⟩ : ∃ x, E.write i (sealL 1 (recFormU r)) = x := ⟨_, rfl⟩
  have HE := Lib.hid (fun W (hg : Hf w0 pd ps pm p q B D' E W) A2 c2 (h2 : Rd W A2 (sealL 1 (recFormU r))) (h3 : ∀ x o, A2 = some ⟨x, o, none⟩ → sealL 1 (recFormU r) ≠ [] → x ≠ pd) => hf_rwrite hg HT.out.rsz i A2 (sealL 1 (recFormU r)) c2 h2 (by rw [hsl]; omega))
  simp only [hD'] at HD hsame hsz
  simp only [hE'] at HE hsame hrl
  obtain ⟨hsame, rfl⟩ := hsame
  have HS := Lib.hid (And.intro hsame (And.intro hsz hrl))
  clear hD' hE' hsame hsz hrl
  rw [HXX.out] at HSe
  obtain ⟨SL, hSL⟩ : ∃ SL, sealL 1 (recFormU r) = SL := ⟨_, rfl⟩
  simp only [hSL] at HSe HD HE hsl
  clear hSL hsl
  subst hk
  go_enter Tryz.func9, Tryz.ntmps9
  go_wp2_with (first
    | (refine sel (some 94) (.load 34 (.tmp 93)) ?_; refine wpList_load_rec rfl (.tmp 93) rfl w.heap.size 2 rfl X (HRng.out _ (heap_alloc_new _ _)) HXS.out ?_))
  refine (HSe.out _).mono ?_
  rintro e u ⟨A2, c2, rfl, g1, g2, g3, g4⟩
  have HH := Lib.hid (HH.out.non g4)
  have HG : Hid (Chg (BS pd ps pm p q) (w.alloc (.cells Y 37)) u) := Lib.hid g4.of_non
  have HRd := Lib.hid g3.rd
  have hoff : ∀ x o, A2 = some ⟨x, o, none⟩ → SL ≠ [] → ¬ BS pd ps pm p q x := fun x o e hl hs => by
    subst e
    have h9 := g3.ge hl
    simp at h9
    have := HLT.out x hs
    omega
  have HOff := Lib.hid hoff
  clear g1 g2 g3 g4 hoff
  have hw := HBox.out u HG.out
  have q1 : u.cell? ⟨w.heap.size, 1, none⟩ = some (.int .i64 i) := by rw [cell_of_row _ _ _ _ _ _ hw]; exact y1
  have q38 : u.cell? ⟨w.heap.size, 38, none⟩ = some (.slice A b.length c) := by rw [cell_of_row _ _ _ _ _ _ hw]; exact y38
  have HW := Lib.hid hw
  clear hw
  go_wp2_with fail
  refine (HD.out _ HH.out A2 c2 HRd.out (fun x o e hl hx => HOff.out x o e hl (.inl (.inl hx)))).mono ?_
  rintro e u2 ⟨rfl, hH, hg⟩
  have HH1 := Lib.hid hH
  have HRd2 : Hid (Rd u2 A2 SL) := Lib.hid (HRd.out.keep hg HOff.out)
  have HG := Lib.hid (HG.out.trans_same hg)
  clear hH hg q1 q38 HW
  have hw := HBox.out u2 HG.out
  have q1 : u2.cell? ⟨w.heap.size, 1, none⟩ = some (.int .i64 i) := by rw [cell_of_row _ _ _ _ _ _ hw]; exact y1
  have q38 : u2.cell? ⟨w.heap.size, 38, none⟩ = some (.slice A b.length c) := by rw [cell_of_row _ _ _ _ _ _ hw]; exact y38
  have HW := Lib.hid hw
  clear hw
  go_wp2_with fail
  refine (HE.out _ HH1.out A2 c2 HRd2.out (fun x o e hl hx => HOff.out x o e hl (.inl (.inl hx)))).mono ?_
  rintro e u3 ⟨rfl, hH, hg⟩
  have HH2 := Lib.hid hH
  clear hH hg
  go_wp2_with fail
  go_ret
  refine ⟨rfl, D', E', HH2.out, ⟨HH2.out.dk.1, HS.out.2.1, HS.out.1, by rw [HS.out.2.2]; exact HT.out.len⟩⟩
set_option maxRecDepth 100000 in
set_option maxHeartbeats 4000000 in
theorem one_other (w0 w : World) (pd ps pm p q B n : Nat) (D : Dk) (E : Rk) (k i : Int) (r : Rec) (A : Option Addr) (c : Nat) (b : List UInt8) (h : Hf w0 pd ps pm p q B D E w) (tw : Twin n D E) (hn : 1 ≤ n) (hr : r.Ok) (hi : -9223372036854775808 ≤ i ∧ i ≤ 9223372036854775807) (hb : Rd w0 A b) (hbl : b.length ≤ 5000) (hk : ¬ (0 ≤ k ∧ k ≤ 8)) :
    Calls Tryz.prog 9 #[.pointer (some ⟨pd, 0, none⟩), .pointer (some ⟨p, 0, none⟩), .agg (actA ⟨k, i, r, A, c, b⟩)] w (OneP w0 pd ps pm p q B n) := by
  have HYS := Lib.hid (actA_size ⟨k, i, r, A, c, b⟩ hr.1)
  have y0 := actA_0 ⟨k, i, r, A, c, b⟩
  have y1 := actA_1 ⟨k, i, r, A, c, b⟩
  have y38 := actA_38 ⟨k, i, r, A, c, b⟩ hr.1
  have HYR := Lib.hid (actA_rec ⟨k, i, r, A, c, b⟩ hr.1)
  have HXS := Lib.hid (recA_size r hr.1)
  have HX := Lib.hid hr
  obtain ⟨Y, hY⟩ : ∃ Y, actA ⟨k, i, r, A, c, b⟩ = Y := ⟨_, rfl⟩
  rw [hY] at HYS y0 y1 y38 HYR ⊢
  simp only at y0 y1 y38 HYR
  have HBox : Hid (∀ W, Chg (BS pd ps pm p q) (w.alloc (.cells Y 37)) W → W.heap[w.heap.size]? = some (.cells Y 37 (0, 0))) := Lib.hid (fun W hg => by
    refine (hg.block _ (by simp) (fun e => ?_)).trans (heap_alloc_new _ _)
    have := h.ltd _ e
    omega)
  have HRng : Hid (∀ W : World, W.heap[w.heap.size]? = some (.cells Y 37 (0, 0)) → W.rangeAt w.heap.size 2 (recA r).toList) := Lib.hid (fun W hw j v hv => by
    rw [cell_of_row _ _ _ _ _ _ hw]
    exact HYR.out j v hv)
  obtain ⟨X, hX⟩ : ∃ X, recA r = X := ⟨_, rfl⟩
  have HXX := Lib.hid hX
  rw [hX] at HXS HRng
  have HH := Lib.hid (h.non ((Chg.refl Non w).alloc (.cells Y 37)))
  have HT := Lib.hid tw
  have HBR := Lib.hid hb
  clear hX hY HYR h tw hb hr
  have b0 : (k == 0) = false := by rw [beq_eq_false_iff_ne]; omega
  have b1 : (k == 1) = false := by rw [beq_eq_false_iff_ne]; omega
  have b2 : (k == 2) = false := by rw [beq_eq_false_iff_ne]; omega
  have b3 : (k == 3) = false := by rw [beq_eq_false_iff_ne]; omega
  have b4 : (k == 4) = false := by rw [beq_eq_false_iff_ne]; omega
  have b5 : (k == 5) = false := by rw [beq_eq_false_iff_ne]; omega
  have b6 : (k == 6) = false := by rw [beq_eq_false_iff_ne]; omega
  have b7 : (k == 7) = false := by rw [beq_eq_false_iff_ne]; omega
  have b8 : (k == 8) = false := by rw [beq_eq_false_iff_ne]; omega
  clear hk
  go_enter Tryz.func9, Tryz.ntmps9
  go_wp2_with fail
  go_ret
  exact ⟨rfl, D, E, HH.out, HT.out⟩
theorem one_ok (w0 w : World) (pd ps pm p q B n : Nat) (D : Dk) (E : Rk) (k i : Int) (r : Rec) (A : Option Addr) (c : Nat) (b : List UInt8) (h : Hf w0 pd ps pm p q B D E w) (tw : Twin n D E) (hn : 1 ≤ n) (hr : r.Ok) (hi : -9223372036854775808 ≤ i ∧ i ≤ 9223372036854775807) (hb : Rd w0 A b) (hbl : b.length ≤ 5000) :
    Calls Tryz.prog 9 #[.pointer (some ⟨pd, 0, none⟩), .pointer (some ⟨p, 0, none⟩), .agg (actA ⟨k, i, r, A, c, b⟩)] w (OneP w0 pd ps pm p q B n) := by
  by_cases hk : 0 ≤ k ∧ k ≤ 8
  · have : (k = 0 ∨ k = 1 ∨ k = 2) ∨ k = 3 ∨ k = 4 ∨ k = 5 ∨ k = 6 ∨ k = 7 ∨ k = 8 := by omega
    rcases this with e | e | e | e | e | e | e
    · exact one_put w0 w pd ps pm p q B n D E k i r A c b h tw hn hr hi hb hbl e
    · exact one_write w0 w pd ps pm p q B n D E k i r A c b h tw hn hr hi hb hbl e
    · exact one_flush w0 w pd ps pm p q B n D E k i r A c b h tw hn hr hi hb hbl e
    · exact one_crash w0 w pd ps pm p q B n D E k i r A c b h tw hn hr hi hb hbl e
    · exact one_start w0 w pd ps pm p q B n D E k i r A c b h tw hn hr hi hb hbl e
    · exact one_arm w0 w pd ps pm p q B n D E k i r A c b h tw hn hr hi hb hbl e
    · exact one_sector w0 w pd ps pm p q B n D E k i r A c b h tw hn hr hi hb hbl e
  · exact one_other w0 w pd ps pm p q B n D E k i r A c b h tw hn hr hi hb hbl hk
end Go.Proofs.YtgmpacndjmmgjaaGreat
end
section
namespace Go.Proofs.YtgmpacndjmmgjaaGreat
open Go.RowKit
set_option linter.unusedVariables false

/-- the two records that are told, of zeros -/
structure StZ (g0 g1 : Nat) (W0 W : World) : Prop where
  chg : Chg (fun k => k = g0 ∨ k = g1) W0 W
  o0 : W.heap[g0]? = some (.cells recZ 34 (0, 0))
  o1 : W.heap[g1]? = some (.cells recZ 34 (0, 0))
namespace StZ
variable {g0 g1 : Nat} {W0 W W' : World}
theorem put0 (h : StZ g0 g1 W0 W) (hne : g0 ≠ g1) (hg : Chg (fun k => k = g0) W W') (hb : W'.heap[g0]? = some (.cells recZ 34 (0, 0))) : StZ g0 g1 W0 W' := by
  obtain ⟨h1, h2, h3⟩ := h
  exact ⟨h1.trans_same (hg.mono (fun x e => .inl e)), hb, (hg.block g1 (Array.getElem?_eq_some_iff.1 h3).1 (fun e => hne e.symm)).trans h3⟩
theorem put1 (h : StZ g0 g1 W0 W) (hne : g0 ≠ g1) (hg : Chg (fun k => k = g1) W W') (hb : W'.heap[g1]? = some (.cells recZ 34 (0, 0))) : StZ g0 g1 W0 W' := by
  obtain ⟨h1, h3, h2⟩ := h
  exact ⟨h1.trans_same (hg.mono (fun x e => .inr e)), (hg.block g0 (Array.getElem?_eq_some_iff.1 h3).1 hne).trans h3, hb⟩
end StZ
set_option maxRecDepth 100000 in
set_option maxHeartbeats 4000000 in
theorem cGet_down (pd ps pm : Nat) (D : Dk) (w : World) (h : IsD w pd ps pm D) (hup : D.up = false) (hlen : 1 ≤ D.sec.length) :
    Calls Tryz.prog 11 #[.pointer (some ⟨pd, 0, none⟩)] w fun e w' => e = .returned (.tuple #[.agg recZ, .agg recZ, .int .i64 60]) ∧ Chg Non w w' := by
  have HL := Lib.hid (fun W hg => Len_ok pd ps pm D W (h.non hg))
  have hlz : ((D.sec.length : Int) == 0) = false := beq_eq_false_iff_ne.2 (by omega)
  have HRE := Lib.hid (fun W hg => Read_down pd ps pm D 0 W (h.non hg) hup)
  clear h hup
  go_enter Tryz.func11, Tryz.ntmps11
  go_wp2_with fail
  refine (HL.out _ (((Chg.refl Non w).alloc _).alloc _)).mono ?_
  rintro e w' ⟨rfl, rfl⟩
  go_wp2_with fail
  go_loopw [16] (fun i wr => ∃ k : Nat, k ≤ 0 ∧ i = .int .i64 k ∧ GetInv D w k wr) (fun i _ => 2 - (intOf i).toNat)
  case atStart =>
    refine ⟨0, by omega, rfl, ?_⟩
    have e2 : ∀ o o' : Obj, ((w.alloc o).alloc o').heap.size = w.heap.size + 1 + 1 := fun o o' => by simp
    have b5 : ∀ o o' o'' : Obj, (((w.alloc o).alloc o').alloc o'').heap[w.heap.size + 1 + 1]? = some o'' := fun o o' o'' => by
      have := heap_alloc_new ((w.alloc o).alloc o') o''
      rw [e2] at this
      exact this
    refine ⟨⟨?_, ?_⟩, ?_, ?_, ?_, ((((Chg.refl Non w).alloc _).alloc _).alloc _)⟩
    · rw [Below.heap_alloc _ _ _ (by rw [e2]; omega)]; exact heap_alloc2_old _ _ _
    · rw [Below.heap_alloc _ _ _ (by rw [e2]; omega)]; exact heap_alloc2_new _ _ _
    · intro j hj
      rw [cell_of_row _ _ _ _ _ _ (b5 _ _ _)]
      exact ⟨zero72c j hj, frozen_of_row _ _ _ _ _ (b5 _ _ _)⟩
    · intro j v hv
      rw [cell_of_row _ _ _ _ _ _ (b5 _ _ _)]
      exact zero72a j v (show (recA Rec.zero)[j]? = some v by simpa using hv)
    · intro j v hv
      rw [cell_of_row _ _ _ _ _ _ (b5 _ _ _)]
      exact zero72b j v (show (recA Rec.zero)[j]? = some v by simpa using hv)
  case round =>
    obtain ⟨k, hk, rfl, hI⟩ := hrel
    have HI := Lib.hid hI
    clear hI
    obtain rfl : k = 0 := by omega
    go_wp2_with fail
    refine (HRE.out wr HI.out.2.2.2.2).mono ?_
    rintro e v ⟨rfl, rfl⟩
    have HSt : Hid (StZ w.heap.size (w.heap.size + 1) wr.drew wr.drew) := Lib.hid ⟨Chg.refl _ _, HI.out.1.1, HI.out.1.2⟩
    go_wp2_with fail
    refine wp_region_held_drew (S := StZ w.heap.size (w.heap.size + 1) wr.drew) (by kernel_rfl) HSt.out (fun hHeld => ?_)
    clear hHeld
    refine h_load 0 (some 28) 34 (.tmp 2) w.heap.size 0 recZ _ rfl (by kernel_rfl) (by kernel_rfl) (by kernel_rfl) (by kernel_rfl) (by kernel_rfl) (fun _ _ _ h => h) (by kernel_rfl) (by kernel_rfl) (fun w h => range_block h.o0) Tryz.underlying34 rfl (by rw [recZ_size]; exact info_rec) HSt.out ?_
    simp only [Act.put, List.setIfInBounds_toArray, List.set_cons_zero, List.set_cons_succ]
    refine h_load 1 (some 29) 34 (.tmp 3) (w.heap.size + 1) 0 recZ _ rfl (by kernel_rfl) (by kernel_rfl) (by kernel_rfl) (by kernel_rfl) (by kernel_rfl) (fun _ _ _ h => h) (by kernel_rfl) (by kernel_rfl) (fun w h => range_block h.o1) Tryz.underlying34 rfl (by rw [recZ_size]; exact info_rec) HSt.out ?_
    simp only [Act.put, List.setIfInBounds_toArray, List.set_cons_zero, List.set_cons_succ]
    refine h_pure 2 (some 30) (.int .i64 60) rfl (by kernel_rfl) (by kernel_rfl) (by kernel_rfl) (by kernel_rfl) (fun _ _ _ h => h) (by kernel_rfl) (fun w hw => by go_simp) HSt.out ?_
    simp only [Act.put, List.setIfInBounds_toArray, List.set_cons_zero, List.set_cons_succ]
    refine h_store 3 34 (.tmp 2) (.tmp 28) w.heap.size recZ (by kernel_rfl) rfl (by kernel_rfl) (by kernel_rfl) (by kernel_rfl) (by kernel_rfl) (by kernel_rfl) 34 (by rw [recZ_size]; exact ⟨_, HSt.out.o0, recZ_size⟩) (by rw [recZ_size]; exact info_rec) recZ_one (fun W3 h1 h2 => HSt.out.put0 (by omega) h1 h2) ?_
    intro W3 hg3 hb3
    have HS3 := Lib.hid (HSt.out.put0 (by omega) hg3 hb3)
    refine h_store 4 34 (.tmp 3) (.tmp 29) (w.heap.size + 1) recZ (by kernel_rfl) rfl (by kernel_rfl) (by kernel_rfl) (by kernel_rfl) (by kernel_rfl) (by kernel_rfl) 34 (by rw [recZ_size]; exact ⟨_, HS3.out.o1, recZ_size⟩) (by rw [recZ_size]; exact info_rec) recZ_one (fun W4 h1 h2 => HS3.out.put1 (by omega) h1 h2) ?_
    intro W4 hg4 hb4
    have HS4 := Lib.hid (HS3.out.put1 (by omega) hg4 hb4)
    refine h_pure 5 (some 4) (.int .i64 60) rfl (by kernel_rfl) (by kernel_rfl) (by kernel_rfl) (by kernel_rfl) (fun _ _ _ h => h) (by kernel_rfl) (fun w hw => by go_simp) HS4.out ?_
    simp only [Act.put, List.setIfInBounds_toArray, List.set_cons_zero, List.set_cons_succ]
    refine wpAnyH_done (by kernel_rfl) ?_ _
    go_wp2_with fail
    exact bodyPost_ret (run_results_cell2_tmp Tryz.results11 _ _ w.heap.size (w.heap.size + 1) 34 recZ recZ (0, 0) (0, 0) _ (.int .i64 60) (by kernel_rfl) (by kernel_rfl) (by kernel_rfl) HS4.out.o0 HS4.out.o1 Tryz.underlying34 rfl (by rw [recZ_size]; exact info_rec) (by rw [recZ_size]; exact info_rec)) (by kernel_rfl) ⟨rfl, (HI.out.2.2.2.2).drew.then_new HS4.out.chg (fun x e => by omega)⟩

set_option maxRecDepth 100000 in
set_option maxHeartbeats 4000000 in
theorem cGet_one (pd ps pm : Nat) (D : Dk) (w : World) (h : IsD w pd ps pm D) (hup : D.up = true) (hlen : 1 ≤ D.sec.length) (hl1 : D.sec.length < 2) :
    Calls Tryz.prog 11 #[.pointer (some ⟨pd, 0, none⟩)] w fun e w' => e = .returned (.tuple #[.agg recZ, .agg recZ, .int .i64 61]) ∧ Chg Non w w' := by
  have HL := Lib.hid (fun W hg => Len_ok pd ps pm D W (h.non hg))
  have hlz : ((D.sec.length : Int) == 0) = false := beq_eq_false_iff_ne.2 (by omega)
  have HRd0 := Lib.hid (fun W hg => Read_any pd ps pm D 0 W (h.non hg) hup (by omega))
  have HRE := Lib.hid (fun W hg => Read_no_sector pd ps pm D 1 W (h.non hg) hup (by omega))
  have hl0 := cat_len D h.1 0 (by omega)
  have HR0 := Lib.hid (fun A c W (h1 : Rd W A (D.at_ 0)) (h2 : (D.at_ 0).length ≤ c) (h3 : c ≤ maxLen) => recRead_any A (D.at_ 0) c W h1 (by omega) (by omega) h2 h3)
  clear hl0 h hup
  go_enter Tryz.func11, Tryz.ntmps11
  go_wp2_with fail
  refine (HL.out _ (((Chg.refl Non w).alloc _).alloc _)).mono ?_
  rintro e w' ⟨rfl, rfl⟩
  go_wp2_with fail
  go_loopw [16] (fun i wr => ∃ k : Nat, k ≤ 1 ∧ i = .int .i64 k ∧ GetInv D w k wr) (fun i _ => 2 - (intOf i).toNat)
  case atStart =>
    refine ⟨0, by omega, rfl, ?_⟩
    have e2 : ∀ o o' : Obj, ((w.alloc o).alloc o').heap.size = w.heap.size + 1 + 1 := fun o o' => by simp
    have b5 : ∀ o o' o'' : Obj, (((w.alloc o).alloc o').alloc o'').heap[w.heap.size + 1 + 1]? = some o'' := fun o o' o'' => by
      have := heap_alloc_new ((w.alloc o).alloc o') o''
      rw [e2] at this
      exact this
    refine ⟨⟨?_, ?_⟩, ?_, ?_, ?_, ((((Chg.refl Non w).alloc _).alloc _).alloc _)⟩
    · rw [Below.heap_alloc _ _ _ (by rw [e2]; omega)]; exact heap_alloc2_old _ _ _
    · rw [Below.heap_alloc _ _ _ (by rw [e2]; omega)]; exact heap_alloc2_new _ _ _
    · intro j hj
      rw [cell_of_row _ _ _ _ _ _ (b5 _ _ _)]
      exact ⟨zero72c j hj, frozen_of_row _ _ _ _ _ (b5 _ _ _)⟩
    · intro j v hv
      rw [cell_of_row _ _ _ _ _ _ (b5 _ _ _)]
      exact zero72a j v (show (recA Rec.zero)[j]? = some v by simpa using hv)
    · intro j v hv
      rw [cell_of_row _ _ _ _ _ _ (b5 _ _ _)]
      exact zero72b j v (show (recA Rec.zero)[j]? = some v by simpa using hv)
  case round =>
    obtain ⟨k, hk, rfl, hI⟩ := hrel
    have HI := Lib.hid hI
    clear hI
    obtain rfl | rfl : k = 0 ∨ k = 1 := by omega
    · by_cases hok : (recRd (D.at_ 0)).2 = true
      · by_cases hsq : (recRd (D.at_ 0)).1.seqn % 2 = 0
        · skip
          have HR := Lib.hid (fun A c W h1 h2 h3 => (HR0.out A c W h1 h2 h3))
          rw [hok] at HR
          have HXS := Lib.hid (recA_size _ (recRd_hash (D.at_ 0)))
          have HX1 := Lib.hid (recA_one (recRd (D.at_ 0)).1)
          have HX0 := Lib.hid (recA_0 (recRd (D.at_ 0)).1)
          have HCA : Hid (cAt D 0 = (recRd (D.at_ 0)).1) := Lib.hid (by unfold cAt; rw [if_pos ⟨hok, hsq⟩])
          have hq : ((recRd (D.at_ 0)).1.seqn % 2 == 0) = true := by rw [beq_iff_eq]; exact hsq
          have h0 := (may_true (recRd_may hok)).1
          obtain ⟨sq, hsqq⟩ : ∃ sq, (recRd (D.at_ 0)).1.seqn = sq := ⟨_, rfl⟩
          rw [hsqq] at h0 hq HX0
          have h00 : 0 ≤ sq := by omega
          have htm : sq.tmod 2 = sq % 2 := Int.tmod_eq_emod_of_nonneg h00
          have hr0 : 0 ≤ sq % 2 := by omega
          have hr1 : sq % 2 < 2 := by omega
          have hwr : IntKind.i64.wrap (sq % 2) = sq % 2 := Go.IntWalk.i64_in _ (by omega)
          obtain ⟨X, hX⟩ : ∃ X, recA (recRd (D.at_ 0)).1 = X := ⟨_, rfl⟩
          rw [hX] at HR HXS HX1 HX0
          have HCX : Hid (recA (cAt D 0) = X) := Lib.hid (by rw [HCA.out]; exact hX)
          clear hX hok hsq hsqq h0
          go_wp2_with fail
          refine (HRd0.out wr HI.out.2.2.2.2).mono ?_
          rintro e w1 ⟨A1, c1, rfl, hc1, hm1, ho1, hg1⟩
          go_wp2_with fail
          refine (HR.out A1 c1 w1 ho1.rd hc1 hm1).mono ?_
          rintro e w2 ⟨rfl, hg2⟩
          have hgr : Chg Non wr w2 := hg1.then_non hg2
          go_wp2_with (first
            | (refine sel none (.store 34 (.tmp 9) (.tmp 34)) ?_
               refine wpList_store_rowA rfl 34 (.tmp 9) (.tmp 34) rfl w2.heap.size X rfl rfl 34 _ (heap_alloc_new _ _) (by rw [HXS.out]; exact info_rec) (by rw [HXS.out]; rfl) HX1.out ?_
               intro W hgW hbW
               have HB := Lib.hid hbW
               have HGW := Lib.hid ((hgr.alloc _).then_new hgW (fun x e => by have := hgr.size; omega))
               have kq : W.cell? ⟨w2.heap.size, 0, none⟩ = some (.int .i64 sq) := by rw [cell_of_row _ _ _ _ _ _ hbW]; exact HX0.out
               clear hgW hbW)
            | (refine sel (some 45) (.load 34 (.tmp 9)) ?_
               refine wpList_load_rec rfl (.tmp 9) rfl w2.heap.size 0 rfl X (range_block HB.out) HXS.out ?_)
            | (refine sel none (.store 34 (.tmp 46) (.tmp 45)) ?_
               refine wpList_store_midA rfl 34 (.tmp 46) (.tmp 45) rfl (w.heap.size + 1 + 1) 0 X rfl rfl (by rw [HXS.out]; exact there_part (there_non HGW.out HI.out.2.1) 0 36 (by omega)) (by rw [HXS.out]; exact info_rec) HX1.out ?_
               intro W2 hgW2 hr2 hap2 hth2
               have HGW2 := Lib.hid hgW2
               have HR2 := Lib.hid hr2
               have HAP2 := Lib.hid hap2
               have HTH2 := Lib.hid hth2
               clear hgW2 hr2 hap2 hth2))
          rw [← HCX.out] at HR2 HAP2
          exact ⟨⟨1, by omega, rfl, getInv_on HI.out (.inl rfl) HGW.out HGW2.out HR2.out HAP2.out HTH2.out⟩, by simp [intOf]⟩
        · skip
          have HR := Lib.hid (fun A c W h1 h2 h3 => (HR0.out A c W h1 h2 h3))
          rw [hok] at HR
          have HXS := Lib.hid (recA_size _ (recRd_hash (D.at_ 0)))
          have HX1 := Lib.hid (recA_one (recRd (D.at_ 0)).1)
          have HX0 := Lib.hid (recA_0 (recRd (D.at_ 0)).1)
          have HCZ : Hid (cAt D 0 = Rec.zero) := Lib.hid (by unfold cAt; rw [if_neg (fun e => hsq e.2)])
          have hq : ((recRd (D.at_ 0)).1.seqn % 2 == 0) = false := by rw [beq_eq_false_iff_ne]; exact hsq
          have h0 := (may_true (recRd_may hok)).1
          obtain ⟨sq, hsqq⟩ : ∃ sq, (recRd (D.at_ 0)).1.seqn = sq := ⟨_, rfl⟩
          rw [hsqq] at h0 hq HX0
          have h00 : 0 ≤ sq := by omega
          have htm : sq.tmod 2 = sq % 2 := Int.tmod_eq_emod_of_nonneg h00
          have hr0 : 0 ≤ sq % 2 := by omega
          have hr1 : sq % 2 < 2 := by omega
          have hwr : IntKind.i64.wrap (sq % 2) = sq % 2 := Go.IntWalk.i64_in _ (by omega)
          obtain ⟨X, hX⟩ : ∃ X, recA (recRd (D.at_ 0)).1 = X := ⟨_, rfl⟩
          rw [hX] at HR HXS HX1 HX0
          clear hX hok hsq hsqq h0
          go_wp2_with fail
          refine (HRd0.out wr HI.out.2.2.2.2).mono ?_
          rintro e w1 ⟨A1, c1, rfl, hc1, hm1, ho1, hg1⟩
          go_wp2_with fail
          refine (HR.out A1 c1 w1 ho1.rd hc1 hm1).mono ?_
          rintro e w2 ⟨rfl, hg2⟩
          have hgr : Chg Non wr w2 := hg1.then_non hg2
          go_wp2_with (first
            | (refine sel none (.store 34 (.tmp 9) (.tmp 34)) ?_
               refine wpList_store_rowA rfl 34 (.tmp 9) (.tmp 34) rfl w2.heap.size X rfl rfl 34 _ (heap_alloc_new _ _) (by rw [HXS.out]; exact info_rec) (by rw [HXS.out]; rfl) HX1.out ?_
               intro W hgW hbW
               have HB := Lib.hid hbW
               have HGW := Lib.hid ((hgr.alloc _).then_new hgW (fun x e => by have := hgr.size; omega))
               have kq : W.cell? ⟨w2.heap.size, 0, none⟩ = some (.int .i64 sq) := by rw [cell_of_row _ _ _ _ _ _ hbW]; exact HX0.out
               clear hgW hbW))
          exact ⟨⟨1, by omega, rfl, getInv_done HI.out (.inl rfl) HGW.out HCZ.out⟩, by simp [intOf]⟩
      · skip
        have hkf : (recRd (D.at_ 0)).2 = false := by simpa using hok
        have HR := Lib.hid (fun A c W h1 h2 h3 => (HR0.out A c W h1 h2 h3))
        rw [hkf] at HR
        have HXS := Lib.hid (recA_size _ (recRd_hash (D.at_ 0)))
        have HX1 := Lib.hid (recA_one (recRd (D.at_ 0)).1)
        have HX0 := Lib.hid (recA_0 (recRd (D.at_ 0)).1)
        have HCZ : Hid (cAt D 0 = Rec.zero) := Lib.hid (by unfold cAt; rw [if_neg (fun e => hok e.1)])
        obtain ⟨X, hX⟩ : ∃ X, recA (recRd (D.at_ 0)).1 = X := ⟨_, rfl⟩
        rw [hX] at HR HXS HX1 HX0
        clear hX hok hkf
        go_wp2_with fail
        refine (HRd0.out wr HI.out.2.2.2.2).mono ?_
        rintro e w1 ⟨A1, c1, rfl, hc1, hm1, ho1, hg1⟩
        go_wp2_with fail
        refine (HR.out A1 c1 w1 ho1.rd hc1 hm1).mono ?_
        rintro e w2 ⟨rfl, hg2⟩
        have hgr : Chg Non wr w2 := hg1.then_non hg2
        go_wp2_with (first
          | (refine sel none (.store 34 (.tmp 9) (.tmp 34)) ?_
             refine wpList_store_rowA rfl 34 (.tmp 9) (.tmp 34) rfl w2.heap.size X rfl rfl 34 _ (heap_alloc_new _ _) (by rw [HXS.out]; exact info_rec) (by rw [HXS.out]; rfl) HX1.out ?_
             intro W hgW hbW
             have HB := Lib.hid hbW
             have HGW := Lib.hid ((hgr.alloc _).then_new hgW (fun x e => by have := hgr.size; omega))
             clear hgW hbW))
        exact ⟨⟨1, by omega, rfl, getInv_done HI.out (.inl rfl) HGW.out HCZ.out⟩, by simp [intOf]⟩
    · skip
      go_wp2_with fail
      refine (HRE.out wr HI.out.2.2.2.2).mono ?_
      rintro e v ⟨rfl, rfl⟩
      have HSt : Hid (StZ w.heap.size (w.heap.size + 1) wr.drew wr.drew) := Lib.hid ⟨Chg.refl _ _, HI.out.1.1, HI.out.1.2⟩
      go_wp2_with fail
      refine wp_region_held_drew (S := StZ w.heap.size (w.heap.size + 1) wr.drew) (by kernel_rfl) HSt.out (fun hHeld => ?_)
      clear hHeld
      refine h_load 0 (some 28) 34 (.tmp 2) w.heap.size 0 recZ _ rfl (by kernel_rfl) (by kernel_rfl) (by kernel_rfl) (by kernel_rfl) (by kernel_rfl) (fun _ _ _ h => h) (by kernel_rfl) (by kernel_rfl) (fun w h => range_block h.o0) Tryz.underlying34 rfl (by rw [recZ_size]; exact info_rec) HSt.out ?_
      simp only [Act.put, List.setIfInBounds_toArray, List.set_cons_zero, List.set_cons_succ]
      refine h_load 1 (some 29) 34 (.tmp 3) (w.heap.size + 1) 0 recZ _ rfl (by kernel_rfl) (by kernel_rfl) (by kernel_rfl) (by kernel_rfl) (by kernel_rfl) (fun _ _ _ h => h) (by kernel_rfl) (by kernel_rfl) (fun w h => range_block h.o1) Tryz.underlying34 rfl (by rw [recZ_size]; exact info_rec) HSt.out ?_
      simp only [Act.put, List.setIfInBounds_toArray, List.set_cons_zero, List.set_cons_succ]
      refine h_pure 2 (some 30) (.int .i64 61) rfl (by kernel_rfl) (by kernel_rfl) (by kernel_rfl) (by kernel_rfl) (fun _ _ _ h => h) (by kernel_rfl) (fun w hw => by go_simp) HSt.out ?_
      simp only [Act.put, List.setIfInBounds_toArray, List.set_cons_zero, List.set_cons_succ]
      refine h_store 3 34 (.tmp 2) (.tmp 28) w.heap.size recZ (by kernel_rfl) rfl (by kernel_rfl) (by kernel_rfl) (by kernel_rfl) (by kernel_rfl) (by kernel_rfl) 34 (by rw [recZ_size]; exact ⟨_, HSt.out.o0, recZ_size⟩) (by rw [recZ_size]; exact info_rec) recZ_one (fun W3 h1 h2 => HSt.out.put0 (by omega) h1 h2) ?_
      intro W3 hg3 hb3
      have HS3 := Lib.hid (HSt.out.put0 (by omega) hg3 hb3)
      refine h_store 4 34 (.tmp 3) (.tmp 29) (w.heap.size + 1) recZ (by kernel_rfl) rfl (by kernel_rfl) (by kernel_rfl) (by kernel_rfl) (by kernel_rfl) (by kernel_rfl) 34 (by rw [recZ_size]; exact ⟨_, HS3.out.o1, recZ_size⟩) (by rw [recZ_size]; exact info_rec) recZ_one (fun W4 h1 h2 => HS3.out.put1 (by omega) h1 h2) ?_
      intro W4 hg4 hb4
      have HS4 := Lib.hid (HS3.out.put1 (by omega) hg4 hb4)
      refine h_pure 5 (some 4) (.int .i64 61) rfl (by kernel_rfl) (by kernel_rfl) (by kernel_rfl) (by kernel_rfl) (fun _ _ _ h => h) (by kernel_rfl) (fun w hw => by go_simp) HS4.out ?_
      simp only [Act.put, List.setIfInBounds_toArray, List.set_cons_zero, List.set_cons_succ]
      refine wpAnyH_done (by kernel_rfl) ?_ _
      go_wp2_with fail
      exact bodyPost_ret (run_results_cell2_tmp Tryz.results11 _ _ w.heap.size (w.heap.size + 1) 34 recZ recZ (0, 0) (0, 0) _ (.int .i64 61) (by kernel_rfl) (by kernel_rfl) (by kernel_rfl) HS4.out.o0 HS4.out.o1 Tryz.underlying34 rfl (by rw [recZ_size]; exact info_rec) (by rw [recZ_size]; exact info_rec)) (by kernel_rfl) ⟨rfl, (HI.out.2.2.2.2).drew.then_new HS4.out.chg (fun x e => by omega)⟩

theorem cGet (pd ps pm : Nat) (D : Dk) (w : World) (h : IsD w pd ps pm D) (hlen : 1 ≤ D.sec.length) :
    Calls Tryz.prog 11 #[.pointer (some ⟨pd, 0, none⟩)] w fun e w' => e = .returned (.tuple #[.agg (recA (gTell D).1), .agg (recA (gTell D).2.1), .int .i64 (gTell D).2.2]) ∧ Chg Non w w' := by
  unfold gTell
  cases hup : D.up with
  | false => exact cGet_down pd ps pm D w h hup hlen
  | true =>
    rw [if_neg (by simp)]
    by_cases h2 : D.sec.length < 2
    · rw [if_pos h2]
      exact cGet_one pd ps pm D w h hup hlen h2
    · rw [if_neg h2]
      exact cGet_up pd ps pm D w h hup (by omega)

set_option maxRecDepth 100000 in
set_option maxHeartbeats 4000000 in
theorem Flushed_ok (pd ps pm : Nat) (D : Dk) (i : Nat) (w : World) (h : IsD w pd ps pm D) (hi : i < D.sec.length) :
    Calls Tryz.prog 16 #[.pointer (some ⟨pd, 0, none⟩), .int .i64 (i : Int)] w (RetB w (D.sec.getD i [])) := by
  obtain ⟨A, c, _, h1, h2, _⟩ := h.cells
  have hok := h.1
  have hhas := has_ok pd ps pm D i w h
  rw [decide_eq_true (show (0 : Int) ≤ i ∧ (i : Int) < D.sec.length from ⟨by omega, by omega⟩)] at hhas
  have HH := Lib.hid hhas
  clear hhas
  have hlen : D.sec.length ≤ 1024 := hok.most
  have hrg := sec_range h.2.choose_spec.choose_spec.2.1 hok.secs i hi
  have hsl := hok.secs _ (List.getElem_mem hi)
  have hgd : D.sec.getD i [] = D.sec[i]'hi := by simp [List.getD, List.getElem?_eq_getElem hi]
  rw [hgd]
  obtain ⟨s, hs⟩ : ∃ s, D.sec[i]'hi = s := ⟨_, rfl⟩
  rw [hs] at hrg hsl ⊢
  have hrd : Rd w (some ⟨ps, i * 64, none⟩) s := by
    refine Rd.of_at (fun j hj => hrg j _ ?_)
    simp [bv, hj]
  have HC := Lib.hid (Clone_any (some ⟨ps, i * 64, none⟩) s 64 w hrd (by omega))
  rw [hsl] at HC
  have HS := Lib.hid hsl
  clear hs hgd hrg hsl hrd hok h h2
  go_enter Tryz.func16, Tryz.ntmps16
  go_wp2_with fail
  refine HH.out.mono ?_
  rintro e w' ⟨rfl, rfl⟩
  go_wp2_with fail
  refine HC.out.mono ?_
  rintro e u ⟨A2, c2, rfl, g1, g2, g3, g4⟩
  have HG3 := Lib.hid g3
  have HG4 := Lib.hid g4
  clear g3 g4
  go_wp2_with fail
  go_ret
  exact ⟨A2, c2, rfl, g1, g2, HG3.out, HG4.out⟩
end Go.Proofs.YtgmpacndjmmgjaaGreat
end
section
namespace Go.Proofs.YtgmpacndjmmgjaaGreat
open Go.RowKit
set_option linter.unusedVariables false
set_option linter.unusedSimpArgs false

section
variable {P : Program} {md : Region.Mode} {ops : Array Oper} {Q : Exit → Act → World → Prop} {S S' : World → Prop}
/-- two may come up -/
theorem h_two {fuel : Nat} {listed : Array Bool} {a : Act} {w : World} (i j : Nat) {oi oj : Oper} (hr : Region.ready md ops listed = [i, j]) (hi : ops[i]? = some oi) (hwi : Region.wanted oi (yielded ops a.tmps) = true) (hj : ops[j]? = some oj) (hwj : Region.wanted oj (yielded ops a.tmps) = true)
    (h : ∀ K : Act → World → Prop, Shut (∀ a w, S w → (S w → wpAnyH P md ops Q S fuel (listed.setIfInBounds i true) a w) → K a w) → Oper.wp P oi a w K Q)
    (h' : ∀ K : Act → World → Prop, Shut (∀ a w, S w → (S w → wpAnyH P md ops Q S fuel (listed.setIfInBounds j true) a w) → K a w) → Oper.wp P oj a w K Q) : wpAnyH P md ops Q S (fuel + 1) listed a w :=
  wpAnyH_ready hr (by simp) (AllReadyH.cons hi (fun K hK => by rw [if_pos hwi]; exact h K hK) (AllReadyH.cons hj (fun K hK => by rw [if_pos hwj]; exact h' K hK) AllReadyH.nil))
/-- more may be asked of the worlds to come -/
theorem h_mono (hS : ∀ w, S' w → S w) : ∀ (fuel : Nat) (listed : Array Bool) (a : Act) (w : World), wpAnyH P md ops Q S' fuel listed a w → wpAnyH P md ops Q S fuel listed a w
  | 0, _, _, _, h => h
  | fuel + 1, _, _, _, h => ⟨h.1, fun i hi => wpOp_mono (fun a' w' h' => ⟨hS _ h'.1, h_mono hS fuel _ a' w' h'.2⟩) (h.2 i hi)⟩
end
theorem own_keepN {S : Nat → Prop} {w w' : World} {B : Nat} {e : TypeId} {size : Nat} {v : Value} {n : Nat} {xs : List Value} (h : w.ownsRow B e size v n xs) (hg : Chg S w w') (hn : ∀ g, v.ownBlock = some g → ¬ S g) : w'.ownsRow B e size v n xs := by
  refine ⟨h.1, ?_⟩
  rcases h.2 with h0 | ⟨g, cap, cur, rfl, hb, hh, h4⟩
  · exact .inl h0
  · exact .inr ⟨g, cap, cur, rfl, hb, (hg.block g (Array.getElem?_eq_some_iff.1 hh).1 (hn g rfl)).trans hh, h4⟩
theorem own_geN {w : World} {B : Nat} {e : TypeId} {size : Nat} {v : Value} {n : Nat} {xs : List Value} {x : Nat} (h : w.ownsRow B e size v n xs) (hx : v.ownBlock = some x) : B ≤ x ∧ x < w.heap.size := by
  rcases h.2 with h0 | ⟨g, cap, cur, rfl, hb, hh, h4⟩
  · exact absurd hx (by simp [h0, Value.ownBlock])
  · obtain rfl : g = x := by simpa [Value.ownBlock] using hx
    exact ⟨hb, (Array.getElem?_eq_some_iff.1 hh).1⟩
def z64 : List UInt8 := List.replicate 64 0
/-- the sectors made so far -/
def NRow (B : Nat) (vr : Value) (W : World) (xs : List Value) (k : Nat) : Prop :=
  ∀ i, i < k → (∃ b c, xs[i * 2]? = some (.slice (some ⟨b, 0, none⟩) 64 c) ∧ 64 ≤ c ∧ c ≤ maxLen ∧ Own B W (some ⟨b, 0, none⟩) z64 ∧ vr.ownBlock ≠ some b) ∧ xs[i * 2 + 1]? = some (.slice none 0 0)
/-- what holds at the head of New's loop -/
structure NInv (w : World) (v : Value) (xs : List Value) (k : Nat) (W : World) : Prop where
  dsk : W.heap[w.heap.size]? = some (.cells #[v, .bool false, .int .i64 0, .slice none 0 0] 42 (0, 0))
  own : W.ownsRow (w.heap.size + 1) 54 2 v k xs
  row : NRow (w.heap.size + 1) v W xs k
  chg : Chg Non w W
theorem info_one : (Tryz.prog.info? 54).map (fun i => (i.zero, i.size, i.bytes)) = some (some (.agg #[.slice none 0 0, .slice none 0 0]), 2, 48) := by kernel_rfl
theorem NInv.next {w W W2 : World} {v : Value} {xs : List Value} {k b g cap : Nat} (h : NInv w v xs k W) (hb : W.heap.size = b) (hw : w.heap.size < W.heap.size)
    (hg : Chg (fun x => v.ownBlock = some x) W W2) (hbb : Own b W2 (some ⟨b, 0, none⟩) z64) (hgw : v.ownBlock = some g ∨ b < g)
    (ho : W2.ownsRow (w.heap.size + 1) 54 2 (.slice (some ⟨g, 0, none⟩) (k + 1) cap) (k + 1) (xs ++ [.slice (some ⟨b, 0, none⟩) 64 64, .slice none 0 0])) :
    NInv w (.slice (some ⟨g, 0, none⟩) (k + 1) cap) (xs ++ [.slice (some ⟨b, 0, none⟩) 64 64, .slice none 0 0]) (k + 1) (W2.setCell ⟨w.heap.size, 0, none⟩ (.slice (some ⟨g, 0, none⟩) (k + 1) cap)) := by
  obtain ⟨h1, h2, h3, h4⟩ := h
  have hgs : Chg (fun x => x = w.heap.size) W2 (W2.setCell ⟨w.heap.size, 0, none⟩ (.slice (some ⟨g, 0, none⟩) (k + 1) cap)) := (Chg.refl (fun x => x = w.heap.size) _).setCell (p := ⟨w.heap.size, 0, none⟩) (.inl rfl) _
  have hvge : ∀ x, v.ownBlock = some x → w.heap.size + 1 ≤ x ∧ x < W.heap.size := fun x e => own_geN h2 e
  have hgge : w.heap.size + 1 ≤ g := (own_geN ho rfl).1
  have hgb : g ≠ b := by
    rcases hgw with e | e
    · have := (hvge g e).2; omega
    · omega
  refine ⟨?_, own_keepN ho hgs (fun x e he => ?_), ?_, (h4.then_new hg (fun x e => by have := (hvge x e).1; omega)).then_new hgs (fun x e => by omega)⟩
  · have hd : W2.heap[w.heap.size]? = _ := (hg.block _ (Array.getElem?_eq_some_iff.1 h1).1 (fun e => by have := (hvge _ e).1; omega)).trans h1
    exact r5_setI _ hd
  · have : g = x := by simpa [Value.ownBlock] using e
    omega
  · have hxl : xs.length = k * 2 := h2.1
    intro i hi
    by_cases hik : i < k
    · obtain ⟨⟨b', c, a1, a2, a3, a4, a5⟩, a6⟩ := h3 i hik
      refine ⟨⟨b', c, by rw [List.getElem?_append_left (by omega)]; exact a1, a2, a3, ?_, ?_⟩, by rw [List.getElem?_append_left (by omega)]; exact a6⟩
      · refine (a4.keep hg (fun b o e hB _ hs => ?_)).keep hgs (fun b o e hB _ hs => by omega)
        injection e with e
        injection e with e _ _
        subst e
        exact a5 hs
      · intro e
        have e : g = b' := by simpa [Value.ownBlock] using e
        subst e
        rcases hgw with e | e
        · exact a5 e
        · obtain ⟨b2, o2, e2, hlt, _⟩ := a4.rd.at_ (by simp [z64])
          injection e2 with e2
          injection e2 with e2 _ _
          omega
    · obtain rfl : i = k := by omega
      refine ⟨⟨b, 64, by rw [List.getElem?_append_right (by omega), hxl, Nat.sub_self]; rfl, Nat.le_refl _, by unfold maxLen; omega, ?_, ?_⟩, by rw [List.getElem?_append_right (by omega), hxl, Nat.add_sub_cancel_left]; rfl⟩
      · exact (hbb.keep hgs (fun x o e hB _ hs => by omega)).mono (by omega)
      · intro e
        have e : g = b := by simpa [Value.ownBlock] using e
        exact hgb e
theorem NInv.rk {w W : World} {v : Value} {xs : List Value} {n : Nat} (h : NInv w v xs n W) (hn : 1 ≤ n) : ∃ q, IsRk w.heap.size w.heap.size q W (Rk.new n) := by
  obtain ⟨h1, h2, h3, h4⟩ := h
  rcases h2.2 with ⟨_, h0⟩ | ⟨g, cap, cur, rfl, hb, hh, c1, c2, c3, c4⟩
  · omega
  · have hl : (Rk.new n).l.length = n := by simp [Rk.new]
    refine ⟨g, cap, none, 0, cur, ?_, hh, ?_, trivial, by rw [hl]; exact c1, c2, Own.nil _ _ _, Nat.le_refl _, by simp, Nat.le_refl _, by omega⟩
    · rw [h1]
      simp only [rkCells, hl]
      rfl
    · intro i f c hi
      have hin : i < n := by have := (List.getElem?_eq_some_iff.1 hi).1; omega
      have hfc : (f, c) = (z64, none) := by
        have : (Rk.new n).l[i]? = some (z64, none) := by simp only [Rk.new, z64]; rw [List.getElem?_replicate, if_pos hin]
        rw [this] at hi
        injection hi with hi
        exact hi.symm
      injection hfc with hf hc
      subst hf hc
      obtain ⟨⟨b, c, a1, a2, a3, a4, a5⟩, a6⟩ := h3 i hin
      have at_ : ∀ j x, j < n * 2 → xs[j]? = some x → cur[j]? = some x := by
        intro j x hj hx
        rw [← c4, List.getElem?_take_of_lt hj, Array.getElem?_toList] at hx
        exact hx
      exact ⟨⟨_, at_ _ _ (by omega) a1, ⟨b, 0, c, rfl, a2, a3, a4.mono (by omega), by simp [z64]⟩⟩, ⟨_, at_ _ _ (by omega) a6, rfl⟩⟩

set_option maxRecDepth 100000 in
set_option maxHeartbeats 4000000 in
theorem rNewD (n : Nat) (w : World) (h1 : 1 ≤ n) (h2 : n ≤ 1000) :
    Calls Tryz.prog 6 #[.int .i64 (n : Int)] w fun e w' => ∃ p q, e = .returned (.pointer (some ⟨p, 0, none⟩)) ∧ IsRk w.heap.size p q w' (Rk.new n) ∧ Chg Non w w' := by
  obtain ⟨i0, hi0, hz0, hs0, hb0⟩ := info_parts info_one
  have HI0 := Lib.hid (And.intro hi0 (And.intro hz0 (And.intro hs0 hb0)))
  clear hi0 hz0 hs0 hb0
  go_enter Tryz.func6, Tryz.ntmps6
  go_wp2_with fail
  go_loopw [4] (fun iv wr => ∃ k : Nat, ∃ v xs, k ≤ n ∧ iv = .int .i64 k ∧ NInv w v xs k wr) (fun iv _ => n - (intOf iv).toNat)
  case atStart =>
    refine ⟨0, .slice none 0 0, [], by omega, rfl, heap_alloc_new _ _, World.ownsRow_nil _ _ _ _, fun i h => by omega, (Chg.refl Non w).alloc _⟩
  case round =>
    obtain ⟨k, v, xs, hk, rfl, hI⟩ := hrel
    have HI := Lib.hid hI
    have hw : w.heap.size < wr.heap.size := (Array.getElem?_eq_some_iff.1 hI.dsk).1
    have k0 : wr.cell? ⟨w.heap.size, 0, none⟩ = some v := by rw [cell_of_row _ _ _ _ _ _ hI.dsk]; rfl
    have f0 : wr.frozen? ⟨w.heap.size, 0, none⟩ = false := frozen_of_row _ _ _ _ _ hI.dsk
    clear hI
    by_cases hlt : k < n
    · have hltd : decide ((k : Int) < (n : Int)) = true := by simpa using hlt
      go_wp2_with fail
      refine wp_region_held_drew (S := fun W => True) (by kernel_rfl) trivial (fun hHeld => ?_)
      clear hHeld
      have HI := Lib.hid (show NInv w v xs k wr.drew from ⟨HI.out.dsk, HI.out.own, HI.out.row, HI.out.chg.drew⟩)
      have k0 : wr.drew.cell? ⟨w.heap.size, 0, none⟩ = some v := k0
      have f0 : wr.drew.frozen? ⟨w.heap.size, 0, none⟩ = false := f0
      have hw : w.heap.size < wr.drew.heap.size := hw
      generalize wr.drew = u at *
      have HU1 : Hid (Chg Non u (u.alloc (.cells (Array.replicate 64 (.int .u8 0)) 5))) := Lib.hid ((Chg.refl Non u).alloc _)
      have hmk := mk_bytes 64 (by omega) (by omega) u
      simp only [Int.reduceToNat] at hmk
      have HU2 : Hid (Chg Non u ((u.alloc (.cells (Array.replicate 64 (.int .u8 0)) 5)).alloc (.cells #[.slice (some ⟨u.heap.size, 0, none⟩) 64 64, .slice none 0 0] 54))) := Lib.hid (((Chg.refl Non u).alloc _).alloc _)
      have HOwn : Hid (Own u.heap.size (u.alloc (.cells (Array.replicate 64 (.int .u8 0)) 5)) (some ⟨u.heap.size, 0, none⟩) z64) := Lib.hid (own_new u 5 _ z64 (by simp [z64, bv]))
      have HOwn2 : Hid (Own u.heap.size ((u.alloc (.cells (Array.replicate 64 (.int .u8 0)) 5)).alloc (.cells #[.slice (some ⟨u.heap.size, 0, none⟩) 64 64, .slice none 0 0] 54)) (some ⟨u.heap.size, 0, none⟩) z64) := Lib.hid (HOwn.out.non ((Chg.refl Non _).alloc _))
      have HZ2 : Hid (((u.alloc (.cells (Array.replicate 64 (.int .u8 0)) 5)).alloc (.cells #[.slice (some ⟨u.heap.size, 0, none⟩) 64 64, .slice none 0 0] 54)).heap.size = u.heap.size + 2) := Lib.hid (by simp)
      have HN2 : Hid (∀ (j : Nat) (x : Value), [(.slice (some ⟨u.heap.size, 0, none⟩) 64 64 : Value), .slice none 0 0][j]? = some x → ((u.alloc (.cells (Array.replicate 64 (.int .u8 0)) 5)).alloc (.cells #[.slice (some ⟨u.heap.size, 0, none⟩) 64 64, .slice none 0 0] 54)).cell? ((⟨u.heap.size + 1, 0, none⟩ : Addr).add j) = some x) := Lib.hid (fun j x hx => by
        rw [add_plain, cell_of_row _ _ _ _ _ _ (heap_alloc2_new u _ _), Nat.zero_add]
        simpa using hx)
      refine h_pure 0 (some 12) (.pointer (some ⟨w.heap.size, 0, none⟩)) rfl (by kernel_rfl) (by kernel_rfl) (by kernel_rfl) (by kernel_rfl) (fun _ _ _ h => h) (by kernel_rfl) (fun W hW => by go_simp) trivial ?_
      simp only [Act.put, List.setIfInBounds_toArray, List.set_cons_zero, List.set_cons_succ]
      refine h_pure 1 (some 13) (.pointer (some ⟨w.heap.size, 0, none⟩)) rfl (by kernel_rfl) (by kernel_rfl) (by kernel_rfl) (by kernel_rfl) (fun _ _ _ h => h) (by kernel_rfl) (fun W hW => by go_simp) trivial ?_
      simp only [Act.put, List.setIfInBounds_toArray, List.set_cons_zero, List.set_cons_succ]
      refine h_pure 2 (some 14) (.pointer (some ⟨w.heap.size, 0, none⟩)) rfl (by kernel_rfl) (by kernel_rfl) (by kernel_rfl) (by kernel_rfl) (fun _ _ _ h => h) (by kernel_rfl) (fun W hW => by go_simp) trivial ?_
      simp only [Act.put, List.setIfInBounds_toArray, List.set_cons_zero, List.set_cons_succ]
      refine h_pure 3 (some 15) (.pointer (some ⟨w.heap.size, 0, none⟩)) rfl (by kernel_rfl) (by kernel_rfl) (by kernel_rfl) (by kernel_rfl) (fun _ _ _ h => h) (by kernel_rfl) (fun W hW => by go_simp) trivial ?_
      simp only [Act.put, List.setIfInBounds_toArray, List.set_cons_zero, List.set_cons_succ]
      refine h_two 4 5 (by kernel_rfl) rfl (by kernel_rfl) rfl (by kernel_rfl) ?_ ?_
      · intro K hK
        go_simp
        refine hK.out _ _ trivial (fun _ => ?_)
        clear hK K
        try simp only [Act.put, List.setIfInBounds_toArray, List.set_cons_zero, List.set_cons_succ]
        refine h_one 5 (by kernel_rfl) rfl (by kernel_rfl) ?_
        intro K hK
        go_simp
        refine hK.out _ _ trivial (fun _ => ?_)
        clear hK K
        try simp only [Act.put, List.setIfInBounds_toArray, List.set_cons_zero, List.set_cons_succ]
        refine h_pure 6 (some 18) (.agg #[.slice (some ⟨u.heap.size, 0, none⟩) 64 64, .slice none 0 0]) rfl (by kernel_rfl) (by kernel_rfl) (by kernel_rfl) (by kernel_rfl) (fun _ _ _ h => h) (by kernel_rfl) (fun W hW => by go_simp) trivial ?_
        simp only [Act.put, List.setIfInBounds_toArray, List.set_cons_zero, List.set_cons_succ]
        refine h_one 7 (by kernel_rfl) rfl (by kernel_rfl) ?_
        intro K hK
        go_simp
        refine hK.out _ _ trivial (fun _ => ?_)
        clear hK K
        try simp only [Act.put, List.setIfInBounds_toArray, List.set_cons_zero, List.set_cons_succ]
        clear k0 hmk
        refine h_one 8 (by kernel_rfl) rfl (by kernel_rfl) ?_
        intro K hK
        refine wp_append_lies _ (.tmp 16) (.tmp 19) 40 rfl (w.heap.size + 1) 54 i0 _ 2 48 Tryz.underlying40 HI0.out.1 HI0.out.2.1 HI0.out.2.2.1 HI0.out.2.2.2 rfl (by omega) v k xs rfl (own_keepN HI.out.own HU2.out (fun _ _ e => e)) ⟨u.heap.size + 1, 0, none⟩ 1 1 [.slice (some ⟨u.heap.size, 0, none⟩) 64 64, .slice none 0 0] rfl rfl HN2.out (by simp [Value.oneCell']) (by omega) (by unfold maxLen; omega) (by omega) (by have := HU2.out.size; omega) _ rfl ?_
        intro g cap u3 h2 hgrow hat hlt3
        have HG3 : Hid (Chg (fun x => v.ownBlock = some x) u u3) := Lib.hid (Chg.grown (HU2.out.of_non) hgrow (fun g' hg' => .inl hg'))
        have HO3 : Hid (Own u.heap.size u3 (some ⟨u.heap.size, 0, none⟩) z64) := Lib.hid (HOwn2.out.keep (S := fun x => v.ownBlock = some x) (Chg.grown (Chg.refl _ _) hgrow (fun g' hg' => .inl hg')) (fun b o e _ _ hs => by injection e with e; injection e with e _ _; subst e; have := (own_geN HI.out.own hs).2; omega))
        have HNx := Lib.hid (HI.out.next rfl hw HG3.out HO3.out (hat.imp id (fun e => by rw [e, HZ2.out]; omega)) h2)
        have HD3 := Lib.hid ((HG3.out.block w.heap.size hw (fun e => by have := (own_geN HI.out.own e).1; omega)).trans HI.out.dsk)
        have k0 : u3.cell? ⟨w.heap.size, 0, none⟩ = some v := by rw [cell_of_row _ _ _ _ _ _ HD3.out]; rfl
        have f0 : u3.frozen? ⟨w.heap.size, 0, none⟩ = false := frozen_of_row _ _ _ _ _ HD3.out
        clear h2 hgrow hat
        refine hK.out _ _ trivial (fun _ => ?_)
        clear hK K
        try simp only [Act.put, List.setIfInBounds_toArray, List.set_cons_zero, List.set_cons_succ]
        refine h_pure 9 (some 21) (.pointer (some ⟨w.heap.size, 0, none⟩)) rfl (by kernel_rfl) (by kernel_rfl) (by kernel_rfl) (by kernel_rfl) (fun _ _ _ h => h) (by kernel_rfl) (fun W hW => by go_simp) trivial ?_
        simp only [Act.put, List.setIfInBounds_toArray, List.set_cons_zero, List.set_cons_succ]
        refine h_pure 10 (some 22) (.pointer (some ⟨w.heap.size, 0, none⟩)) rfl (by kernel_rfl) (by kernel_rfl) (by kernel_rfl) (by kernel_rfl) (fun _ _ _ h => h) (by kernel_rfl) (fun W hW => by go_simp) trivial ?_
        simp only [Act.put, List.setIfInBounds_toArray, List.set_cons_zero, List.set_cons_succ]
        refine h_one 11 (by kernel_rfl) rfl (by kernel_rfl) ?_
        intro K hK
        go_simp
        refine hK.out _ _ trivial (fun _ => ?_)
        clear hK K
        refine wpAnyH_done (by kernel_rfl) ?_ _
        go_wp2_with fail
        case roundEnd =>
          exact ⟨⟨k + 1, _, _, by omega, by simp, HNx.out⟩, by simp [intOf]; omega⟩
      · intro K hK
        go_simp
        refine hK.out _ _ trivial (fun _ => ?_)
        clear hK K
        try simp only [Act.put, List.setIfInBounds_toArray, List.set_cons_zero, List.set_cons_succ]
        refine h_pure 6 (some 18) (.agg #[.slice (some ⟨u.heap.size, 0, none⟩) 64 64, .slice none 0 0]) rfl (by kernel_rfl) (by kernel_rfl) (by kernel_rfl) (by kernel_rfl) (fun _ _ _ h => h) (by kernel_rfl) (fun W hW => by go_simp) trivial ?_
        simp only [Act.put, List.setIfInBounds_toArray, List.set_cons_zero, List.set_cons_succ]
        refine h_two 4 7 (by kernel_rfl) rfl (by kernel_rfl) rfl (by kernel_rfl) ?_ ?_
        · intro K hK
          go_simp
          refine hK.out _ _ trivial (fun _ => ?_)
          clear hK K
          try simp only [Act.put, List.setIfInBounds_toArray, List.set_cons_zero, List.set_cons_succ]
          refine h_one 7 (by kernel_rfl) rfl (by kernel_rfl) ?_
          intro K hK
          go_simp
          refine hK.out _ _ trivial (fun _ => ?_)
          clear hK K
          try simp only [Act.put, List.setIfInBounds_toArray, List.set_cons_zero, List.set_cons_succ]
          clear k0 hmk
          refine h_one 8 (by kernel_rfl) rfl (by kernel_rfl) ?_
          intro K hK
          refine wp_append_lies _ (.tmp 16) (.tmp 19) 40 rfl (w.heap.size + 1) 54 i0 _ 2 48 Tryz.underlying40 HI0.out.1 HI0.out.2.1 HI0.out.2.2.1 HI0.out.2.2.2 rfl (by omega) v k xs rfl (own_keepN HI.out.own HU2.out (fun _ _ e => e)) ⟨u.heap.size + 1, 0, none⟩ 1 1 [.slice (some ⟨u.heap.size, 0, none⟩) 64 64, .slice none 0 0] rfl rfl HN2.out (by simp [Value.oneCell']) (by omega) (by unfold maxLen; omega) (by omega) (by have := HU2.out.size; omega) _ rfl ?_
          intro g cap u3 h2 hgrow hat hlt3
          have HG3 : Hid (Chg (fun x => v.ownBlock = some x) u u3) := Lib.hid (Chg.grown (HU2.out.of_non) hgrow (fun g' hg' => .inl hg'))
          have HO3 : Hid (Own u.heap.size u3 (some ⟨u.heap.size, 0, none⟩) z64) := Lib.hid (HOwn2.out.keep (S := fun x => v.ownBlock = some x) (Chg.grown (Chg.refl _ _) hgrow (fun g' hg' => .inl hg')) (fun b o e _ _ hs => by injection e with e; injection e with e _ _; subst e; have := (own_geN HI.out.own hs).2; omega))
          have HNx := Lib.hid (HI.out.next rfl hw HG3.out HO3.out (hat.imp id (fun e => by rw [e, HZ2.out]; omega)) h2)
          have HD3 := Lib.hid ((HG3.out.block w.heap.size hw (fun e => by have := (own_geN HI.out.own e).1; omega)).trans HI.out.dsk)
          have k0 : u3.cell? ⟨w.heap.size, 0, none⟩ = some v := by rw [cell_of_row _ _ _ _ _ _ HD3.out]; rfl
          have f0 : u3.frozen? ⟨w.heap.size, 0, none⟩ = false := frozen_of_row _ _ _ _ _ HD3.out
          clear h2 hgrow hat
          refine hK.out _ _ trivial (fun _ => ?_)
          clear hK K
          try simp only [Act.put, List.setIfInBounds_toArray, List.set_cons_zero, List.set_cons_succ]
          refine h_pure 9 (some 21) (.pointer (some ⟨w.heap.size, 0, none⟩)) rfl (by kernel_rfl) (by kernel_rfl) (by kernel_rfl) (by kernel_rfl) (fun _ _ _ h => h) (by kernel_rfl) (fun W hW => by go_simp) trivial ?_
          simp only [Act.put, List.setIfInBounds_toArray, List.set_cons_zero, List.set_cons_succ]
          refine h_pure 10 (some 22) (.pointer (some ⟨w.heap.size, 0, none⟩)) rfl (by kernel_rfl) (by kernel_rfl) (by kernel_rfl) (by kernel_rfl) (fun _ _ _ h => h) (by kernel_rfl) (fun W hW => by go_simp) trivial ?_
          simp only [Act.put, List.setIfInBounds_toArray, List.set_cons_zero, List.set_cons_succ]
          refine h_one 11 (by kernel_rfl) rfl (by kernel_rfl) ?_
          intro K hK
          go_simp
          refine hK.out _ _ trivial (fun _ => ?_)
          clear hK K
          refine wpAnyH_done (by kernel_rfl) ?_ _
          go_wp2_with fail
          case roundEnd =>
            exact ⟨⟨k + 1, _, _, by omega, by simp, HNx.out⟩, by simp [intOf]; omega⟩
        · intro K hK
          go_simp
          refine hK.out _ _ trivial (fun _ => ?_)
          clear hK K
          try simp only [Act.put, List.setIfInBounds_toArray, List.set_cons_zero, List.set_cons_succ]
          refine h_one 4 (by kernel_rfl) rfl (by kernel_rfl) ?_
          intro K hK
          go_simp
          refine hK.out _ _ trivial (fun _ => ?_)
          clear hK K
          try simp only [Act.put, List.setIfInBounds_toArray, List.set_cons_zero, List.set_cons_succ]
          clear k0 hmk
          refine h_one 8 (by kernel_rfl) rfl (by kernel_rfl) ?_
          intro K hK
          refine wp_append_lies _ (.tmp 16) (.tmp 19) 40 rfl (w.heap.size + 1) 54 i0 _ 2 48 Tryz.underlying40 HI0.out.1 HI0.out.2.1 HI0.out.2.2.1 HI0.out.2.2.2 rfl (by omega) v k xs rfl (own_keepN HI.out.own HU2.out (fun _ _ e => e)) ⟨u.heap.size + 1, 0, none⟩ 1 1 [.slice (some ⟨u.heap.size, 0, none⟩) 64 64, .slice none 0 0] rfl rfl HN2.out (by simp [Value.oneCell']) (by omega) (by unfold maxLen; omega) (by omega) (by have := HU2.out.size; omega) _ rfl ?_
          intro g cap u3 h2 hgrow hat hlt3
          have HG3 : Hid (Chg (fun x => v.ownBlock = some x) u u3) := Lib.hid (Chg.grown (HU2.out.of_non) hgrow (fun g' hg' => .inl hg'))
          have HO3 : Hid (Own u.heap.size u3 (some ⟨u.heap.size, 0, none⟩) z64) := Lib.hid (HOwn2.out.keep (S := fun x => v.ownBlock = some x) (Chg.grown (Chg.refl _ _) hgrow (fun g' hg' => .inl hg')) (fun b o e _ _ hs => by injection e with e; injection e with e _ _; subst e; have := (own_geN HI.out.own hs).2; omega))
          have HNx := Lib.hid (HI.out.next rfl hw HG3.out HO3.out (hat.imp id (fun e => by rw [e, HZ2.out]; omega)) h2)
          have HD3 := Lib.hid ((HG3.out.block w.heap.size hw (fun e => by have := (own_geN HI.out.own e).1; omega)).trans HI.out.dsk)
          have k0 : u3.cell? ⟨w.heap.size, 0, none⟩ = some v := by rw [cell_of_row _ _ _ _ _ _ HD3.out]; rfl
          have f0 : u3.frozen? ⟨w.heap.size, 0, none⟩ = false := frozen_of_row _ _ _ _ _ HD3.out
          clear h2 hgrow hat
          refine hK.out _ _ trivial (fun _ => ?_)
          clear hK K
          try simp only [Act.put, List.setIfInBounds_toArray, List.set_cons_zero, List.set_cons_succ]
          refine h_pure 9 (some 21) (.pointer (some ⟨w.heap.size, 0, none⟩)) rfl (by kernel_rfl) (by kernel_rfl) (by kernel_rfl) (by kernel_rfl) (fun _ _ _ h => h) (by kernel_rfl) (fun W hW => by go_simp) trivial ?_
          simp only [Act.put, List.setIfInBounds_toArray, List.set_cons_zero, List.set_cons_succ]
          refine h_pure 10 (some 22) (.pointer (some ⟨w.heap.size, 0, none⟩)) rfl (by kernel_rfl) (by kernel_rfl) (by kernel_rfl) (by kernel_rfl) (fun _ _ _ h => h) (by kernel_rfl) (fun W hW => by go_simp) trivial ?_
          simp only [Act.put, List.setIfInBounds_toArray, List.set_cons_zero, List.set_cons_succ]
          refine h_one 11 (by kernel_rfl) rfl (by kernel_rfl) ?_
          intro K hK
          go_simp
          refine hK.out _ _ trivial (fun _ => ?_)
          clear hK K
          refine wpAnyH_done (by kernel_rfl) ?_ _
          go_wp2_with fail
          case roundEnd =>
            exact ⟨⟨k + 1, _, _, by omega, by simp, HNx.out⟩, by simp [intOf]; omega⟩
    · obtain rfl : k = n := by omega
      have hltd : decide ((k : Int) < (k : Int)) = false := by simp
      obtain ⟨q, hq⟩ := HI.out.rk h1
      have HQ := Lib.hid hq
      clear hq
      go_wp2_with fail
      go_ret
      exact ⟨_, q, rfl, HQ.out, HI.out.chg⟩
end Go.Proofs.YtgmpacndjmmgjaaGreat
end
section
namespace Go.Proofs.YtgmpacndjmmgjaaGreat
open Go.RowKit
set_option linter.unusedVariables false
set_option linter.unusedSimpArgs false

theorem RdA.at_ {w : World} {A : Option Addr} {l : List ActV} (h : RdA w A l) {k : Nat} {a : ActV} (hk : l[k]? = some a) : ∃ b o, A = some ⟨b, o, none⟩ ∧ w.rangeAt b (o + k * 39) (actA a).toList ∧ ActOk w a := by
  obtain ⟨⟨b, o, rfl, hc⟩, ho⟩ := h k a hk
  exact ⟨b, o, rfl, hc, ho⟩
theorem range_part {w : World} {b o : Nat} {cs : List Value} (h : w.rangeAt b o cs) (j : Nat) (ds : List Value) (hj : ∀ i v, ds[i]? = some v → cs[j + i]? = some v) : w.rangeAt b (o + j) ds := fun i v hv => by
  have := h (j + i) v (hj i v hv)
  rw [Nat.add_assoc]
  exact this
theorem act_rec_range {w : World} {b o : Nat} {a : ActV} (h : w.rangeAt b o (actA a).toList) (hh : a.r.hash.length = 32) : w.rangeAt b (o + 2) (recA a.r).toList :=
  range_part h 2 _ (fun i v hv => by rw [Array.getElem?_toList]; exact actA_rec a hh i v hv)
theorem act_bytes_cell {w : World} {b o : Nat} {a : ActV} (h : w.rangeAt b o (actA a).toList) (hh : a.r.hash.length = 32) : w.cell? ⟨b, o + 38, none⟩ = some (.slice a.A a.b.length a.c) :=
  h 38 _ (by rw [Array.getElem?_toList]; exact actA_38 a hh)

/-- what Great answers -/
def GreatP (l : List ActV) (w : World) (e : Ending) (w' : World) : Prop := (∃ g, e = .returned (.bool g) ∧ (g = false → ∀ (i : Nat) (a : ActV), l[i]? = some a → a.b.length ≤ 5000)) ∧ w = w'
set_option maxRecDepth 100000 in
set_option maxHeartbeats 2000000 in
theorem Great_ok (A : Option Addr) (l : List ActV) (c : Nat) (w : World) (hr : RdA w A l) (hc : l.length ≤ c) (hm : c ≤ maxLen) :
    Calls Tryz.prog 4 #[.slice A l.length c] w (GreatP l w) := by
  unfold maxLen at hm
  have HR := Lib.hid hr
  clear hr
  go_enter Tryz.func4, Tryz.ntmps4
  go_wp2_with fail
  go_loop [3, 4] (fun nv iv => ∃ k m : Nat, k ≤ l.length ∧ m ≤ 5000 ∧ iv = .int .i64 k ∧ nv = .int .i64 m ∧ Hid (∀ (i : Nat) (a : ActV), i < k → l[i]? = some a → a.b.length ≤ 5000)) (fun _ iv => l.length - (intOf iv).toNat)
  case atStart => exact ⟨0, 0, Nat.zero_le _, Nat.zero_le _, rfl, rfl, Lib.hid (fun i a h => by omega)⟩
  case round =>
    obtain ⟨k, m, hk, hm5, rfl, rfl, HI⟩ := hrel
    by_cases hlt : k < l.length
    · obtain ⟨a, ha⟩ : ∃ a, l[k]? = some a := ⟨_, List.getElem?_eq_getElem hlt⟩
      obtain ⟨b, o, rfl, hrg, hok⟩ := HR.out.at_ ha
      have k38 := act_bytes_cell hrg hok.1.1
      have hbl := hok.2.2.2.2
      have HA := Lib.hid ha
      have hltd : decide ((k : Int) < (l.length : Int)) = true := by simpa using hlt
      clear ha hrg hok
      obtain ⟨bl, hbl2⟩ : ∃ bl, a.b.length = bl := ⟨_, rfl⟩
      rw [hbl2] at k38 hbl
      have HB := Lib.hid hbl2
      clear hbl2
      by_cases hg : 5000 < m + bl + 50
      · have hgd : decide ((5000 : Int) < (m : Int) + (bl : Int) + 50) = true := by rw [decide_eq_true_eq]; omega
        have hgd' : (5000 : Int) < (m : Int) + (bl : Int) + 50 := by omega
        clear hg
        go_wp2_with fail
        go_ret
        exact ⟨⟨true, rfl, fun e => by cases e⟩, rfl⟩
      · have hgd : decide ((5000 : Int) < (m : Int) + (bl : Int) + 50) = false := by rw [decide_eq_false_iff_not]; omega
        have hgd' : ¬ (5000 : Int) < (m : Int) + (bl : Int) + 50 := by omega
        have hgd'' : (m : Int) + (bl : Int) + 50 ≤ 5000 := by omega
        have HX : Hid (∀ (i : Nat) (x : ActV), i < k + 1 → l[i]? = some x → x.b.length ≤ 5000) := Lib.hid (fun i x hi hx => by
          by_cases e : i = k
          · subst e
            rw [HA.out] at hx
            injection hx with hx
            subst hx
            rw [HB.out]
            omega
          · exact HI.out i x (by omega) hx)
        go_wp2_with fail
        go_round
        case rel => exact ⟨k + 1, m + bl + 50, by omega, by omega, by go_num, by go_num, HX⟩
        case measure => simp [intOf]; omega
    · obtain rfl : k = l.length := by omega
      have hltd : decide ((l.length : Int) < (l.length : Int)) = false := by simp
      go_wp2_with fail
      go_ret
      exact ⟨⟨false, rfl, fun _ i a ha => HI.out i a (List.getElem?_eq_some_iff.1 ha).1 ha⟩, rfl⟩

/-- what is read of the program's disk: nothing while it is down -/
def dAt (D : Dk) (i : Nat) : List UInt8 := if D.up = false then [] else D.at_ i
/-- bytes, and a number of an error -/
def RdE (W0 : World) (l : List UInt8) (e : Ending) (W : World) : Prop := ∃ A c er, e = .returned (.tuple #[.slice A l.length c, er]) ∧ l.length ≤ c ∧ c ≤ maxLen ∧ Rd W A l ∧ Chg Non W0 W
section
variable {w0 W : World} {pd ps pm p q B n : Nat} {D : Dk} {E : Rk}
theorem hf_up (h : Hf w0 pd ps pm p q B D E W) : Calls Tryz.prog 10 #[.pointer (some ⟨pd, 0, none⟩)] W fun e W' => e = .returned (.bool D.up) ∧ W = W' := Up_ok pd ps pm D W h.dk
theorem dAt_len (h : D.Ok) {i : Nat} (hi : i < D.sec.length) : (dAt D i).length ≤ 64 := by
  unfold dAt
  split
  · simp
  · rw [cat_len D h i hi]; exact Nat.le_refl _
theorem hf_read (h : Hf w0 pd ps pm p q B D E W) (tw : Twin n D E) (k : Nat) (hk : k < n) :
    Calls Tryz.prog 13 #[.pointer (some ⟨pd, 0, none⟩), .int .i64 (k : Int)] W (RdE W (dAt D k)) := by
  unfold dAt
  cases hup : D.up with
  | false =>
    refine (Read_down pd ps pm D k W h.dk hup).mono ?_
    rintro e u ⟨rfl, rfl⟩
    exact ⟨none, 0, _, rfl, Nat.le_refl _, by simp, Rd.nil _ _, Chg.refl _ _⟩
  | true =>
    rw [if_neg (by simp)]
    refine (Read_any pd ps pm D k W h.dk hup (by rw [tw.dlen]; exact hk)).mono ?_
    rintro e u ⟨A, c, rfl, h1, h2, h3, h4⟩
    exact ⟨A, c, _, rfl, h1, h2, h3.rd, h4⟩
theorem hf_rread (h : Hf w0 pd ps pm p q B D E W) (tw : Twin n D E) (k : Nat) (hk : k < n) :
    Calls Tryz.prog 14 #[.pointer (some ⟨p, 0, none⟩), .int .i64 (k : Int)] W (RdE W (dAt D k)) := by
  unfold dAt
  have hud := up_iff tw.same
  by_cases hup : D.up = false
  · rw [if_pos hup]
    refine (rRead_down B p q E k W h.rk (by rw [← hud]; exact hup)).mono ?_
    rintro e u ⟨rfl, rfl⟩
    exact ⟨none, 0, _, rfl, Nat.le_refl _, by simp, Rd.nil _ _, Chg.refl _ _⟩
  · rw [if_neg hup]
    obtain ⟨⟨f, c⟩, hx⟩ : ∃ x, E.l[k]? = some x := ⟨_, List.getElem?_eq_getElem (by rw [tw.len]; exact hk)⟩
    have hs := at_same tw.same k f c hx
    refine (rRead_ok B p q E k f c W h.rk (by rw [hud] at hup; simpa using hup) hx).mono ?_
    rintro e u ⟨A, c2, rfl, h1, h2, h3, h4, h5⟩
    rw [hs.1]
    exact ⟨A, c2, _, by rw [h3], by rw [h3]; exact h1, h2, h4.rd, h5⟩
theorem hf_flushed (h : Hf w0 pd ps pm p q B D E W) (tw : Twin n D E) (k : Nat) (hk : k < n) :
    Calls Tryz.prog 16 #[.pointer (some ⟨pd, 0, none⟩), .int .i64 (k : Int)] W (RetB W (D.sec.getD k [])) :=
  Flushed_ok pd ps pm D k W h.dk (by rw [tw.dlen]; exact hk)
/-- the document's flushed bytes, where they lie -/
theorem hf_rflushed (h : Hf w0 pd ps pm p q B D E W) (tw : Twin n D E) (k : Nat) (hk : k < n) :
    (∃ cap, W.cell? ⟨p, 0, none⟩ = some (.slice (some ⟨q, 0, none⟩) n cap) ∧ n ≤ cap ∧ cap ≤ maxLen) ∧ ∃ b o kk, W.cell? ⟨q, k * 2, none⟩ = some (.slice (some ⟨b, o, none⟩) 64 kk) ∧ Rd W (some ⟨b, o, none⟩) (D.sec.getD k []) ∧ (D.sec.getD k []).length = 64 := by
  obtain ⟨cap, A3, c3, k0, k1, k2, k3, fp, fq, z1, z2, _⟩ := h.rk.cells
  rw [tw.len] at k0 z1
  obtain ⟨⟨f, c⟩, hx⟩ : ∃ x, E.l[k]? = some x := ⟨_, List.getElem?_eq_getElem (by rw [tw.len]; exact hk)⟩
  have hs := at_same tw.same k f c hx
  obtain ⟨⟨v1, r1, b, o, kk, rfl, g1, g2, g3, g4⟩, _⟩ := h.rk.row hx
  rw [hs.2]
  exact ⟨⟨cap, k0, z1, z2⟩, b, o, kk, r1, g3.rd, g4⟩
theorem hf_get (h : Hf w0 pd ps pm p q B D E W) (tw : Twin n D E) (hn : 1 ≤ n) :
    Calls Tryz.prog 11 #[.pointer (some ⟨pd, 0, none⟩)] W fun e w' => e = .returned (.tuple #[.agg (recA (gTell D).1), .agg (recA (gTell D).2.1), .int .i64 (gTell D).2.2]) ∧ Chg Non W w' :=
  cGet pd ps pm D W h.dk (by rw [tw.dlen]; exact hn)
theorem hf_rget (h : Hf w0 pd ps pm p q B D E W) (tw : Twin n D E) (hn : 1 ≤ n) :
    Calls Tryz.prog 12 #[.pointer (some ⟨p, 0, none⟩)] W fun e w' => e = .returned (.tuple #[.agg (recA (gTell D).1), .agg (recA (gTell D).2.1), .int .i64 (gTell D).2.2]) ∧ Chg Non W w' := by
  rw [get_same tw.same]
  exact rGet B p q E W h.rk (by rw [tw.len]; exact hn)
theorem cTell_bd (D : Dk) : (cTell (cAt D 0) (cAt D 1)).1.Bd ∧ (cTell (cAt D 0) (cAt D 1)).2.1.Bd := by
  have h0 := cAt_bd D 0
  have h1 := cAt_bd D 1
  unfold cTell
  by_cases hlt : (cAt D 0).seqn < (cAt D 1).seqn
  · rw [if_pos hlt]
    simp only
    split
    · exact ⟨h1, h0⟩
    split
    · exact ⟨h1, zero_bd⟩
    · exact ⟨h1, h0⟩
  · rw [if_neg hlt]
    simp only
    split
    · exact ⟨h0, h1⟩
    split
    · exact ⟨h0, zero_bd⟩
    · exact ⟨h0, h1⟩
theorem gTell_bd (D : Dk) : (gTell D).1.Bd ∧ (gTell D).2.1.Bd := by
  unfold gTell
  split
  · exact ⟨zero_bd, zero_bd⟩
  split
  · exact ⟨zero_bd, zero_bd⟩
  · exact cTell_bd D
end
/-- both disks, whatever is on them -/
def PS (w0 : World) (pd ps pm p q B n : Nat) (W : World) : Prop := ∃ D E, Hf w0 pd ps pm p q B D E W ∧ Twin n D E
theorem PS.non {w0 W W' : World} {pd ps pm p q B n : Nat} (h : PS w0 pd ps pm p q B n W) (hg : Chg Non W W') : PS w0 pd ps pm p q B n W' := by
  obtain ⟨D, E, h1, h2⟩ := h
  exact ⟨D, E, h1.non hg, h2⟩
theorem PS.chg {w0 W : World} {pd ps pm p q B n : Nat} (h : PS w0 pd ps pm p q B n W) : Chg Non w0 W := by
  obtain ⟨D, E, h1, h2⟩ := h
  exact h1.chg
theorem act_one (a : ActV) (h : a.r.hash.length = 32) : (actA a).all (·.oneCell') = true := by
  rw [← Array.all_toList, actA_list]
  simp only [List.all_append, Bool.and_eq_true]
  refine ⟨⟨rfl, ?_⟩, rfl⟩
  rw [Array.all_toList]
  exact recA_one _
end Go.Proofs.YtgmpacndjmmgjaaGreat
end
section
namespace Go.Proofs.YtgmpacndjmmgjaaGreat
open Go.RowKit
set_option linter.unusedVariables false
set_option linter.unusedSimpArgs false

/-- the records that were told, where they lie -/
structure Tld (g : Nat) (X Y : Array Value) (W0 W : World) : Prop where
  chg : Chg Non W0 W
  a : W.heap[g]? = some (.cells X 34 (0, 0))
  b : W.heap[g + 1]? = some (.cells Y 34 (0, 0))
theorem Tld.non {g : Nat} {X Y : Array Value} {W0 W W' : World} (h : Tld g X Y W0 W) (hg : Chg Non W W') : Tld g X Y W0 W' :=
  ⟨h.chg.then_non hg, r5_blk hg h.a, r5_blk hg h.b⟩
theorem Tld.mk2 {W0 W W1 W2 : World} {g : Nat} {X Y : Array Value} (h : Chg Non W0 W) (hs : W.heap.size = g) (o1 o2 : Obj) (h1 : Chg (fun k => k = g) ((W.alloc o1).alloc o2) W1) (b1 : W1.heap[g]? = some (.cells X 34 (0, 0)))
    (h2 : Chg (fun k => k = g + 1) W1 W2) (b2 : W2.heap[g + 1]? = some (.cells Y 34 (0, 0))) : Tld g X Y W0 W2 := by
  subst hs
  have hsz := h.size
  exact ⟨(((h.alloc o1).alloc o2).then_new h1 (fun x e => by omega)).then_new h2 (fun x e => by omega), (h2.block _ (Array.getElem?_eq_some_iff.1 b1).1 (by omega)).trans b1, b2⟩

set_option maxRecDepth 100000 in
set_option maxHeartbeats 8000000 in
theorem CommitPlays_in (n : Nat) (A : Option Addr) (l : List ActV) (c : Nat) (w : World) (hr : RdA w A l) (hc : l.length ≤ c) (hm : c ≤ maxLen) (h1 : 1 ≤ n) (h4 : n ≤ 4) :
    Calls Tryz.prog 3 #[.int .i64 (n : Int), .slice A l.length c] w fun e w' => e = .returned (.bool true) ∧ Chg Non w w' := by
  have HGr := Lib.hid (Great_ok A l c w hr hc hm)
  have HR := Lib.hid hr
  have HNew := Lib.hid (fun W => New_ok n W (by omega) (by omega))
  have HNew2 := Lib.hid (fun W => rNewD n W (by omega) (by omega))
  have d1 : decide ((n : Int) < 1) = false := by rw [decide_eq_false_iff_not]; omega
  have d2 : decide ((4 : Int) < (n : Int)) = false := by rw [decide_eq_false_iff_not]; omega
  have d1' : ¬ (n : Int) < 1 := by omega
  have d2' : ¬ (4 : Int) < (n : Int) := by omega
  clear hr
  unfold maxLen at hm
  go_enter Tryz.func3, Tryz.ntmps3
  go_wp2_with fail
  refine HGr.out.mono ?_
  rintro e w' ⟨⟨g, rfl, hg⟩, rfl⟩
  have HBig := Lib.hid hg
  clear hg
  cases g with
  | true =>
    go_wp2_with fail
    go_ret
    exact ⟨rfl, Chg.refl _ _⟩
  | false =>
  go_wp2_with fail
  refine (HNew.out w).mono ?_
  rintro e w1 ⟨pd, ps, pm, rfl, hD, g1, g2, g3, g4⟩
  have HD := Lib.hid hD
  have HLo := Lib.hid (And.intro g1 (And.intro g2 g3))
  have HG1 := Lib.hid g4
  clear hD g1 g2 g3 g4
  go_wp2_with fail
  refine (HNew2.out w1).mono ?_
  rintro e w2 ⟨p, q, rfl, hE, hg⟩
  obtain ⟨B, hB⟩ : ∃ B, w1.heap.size = B := ⟨_, rfl⟩
  rw [hB] at hE
  have HH0 : Hid (Hf w pd ps pm p q B (Dk.new n) (Rk.new n) w2) := Lib.hid (by
    have hlt := HD.out.lt
    refine ⟨HD.out.non hg, hE, HLo.out, ?_, HG1.out.then_non hg⟩
    rw [← hB]
    exact hlt)
  have HP0 : Hid (PS w pd ps pm p q B n w2) := Lib.hid ⟨Dk.new n, Rk.new n, HH0.out, new_ok n (by omega), ⟨by simp [Dk.new], by simp [Dk.new]⟩, new_same n, by simp [Rk.new]⟩
  clear hE hg hB HH0 HD HLo HG1 HNew HNew2 HGr
  go_wp2_with fail
  go_loopw [8] (fun iv wr => ∃ k : Nat, k ≤ l.length ∧ iv = .int .i64 k ∧ Hid (PS w pd ps pm p q B n wr)) (fun iv _ => l.length - (intOf iv).toNat)
  case atStart => exact ⟨0, Nat.zero_le _, rfl, HP0⟩
  case round =>
    obtain ⟨k, hk, rfl, HS⟩ := hrel
    by_cases hlt : k < l.length
    · obtain ⟨a, ha⟩ : ∃ a, l[k]? = some a := ⟨_, List.getElem?_eq_getElem hlt⟩
      obtain ⟨b, o, rfl, hrg, hok⟩ := HR.out.at_ ha
      have HRA := Lib.hid hrg
      have HRR := Lib.hid (act_rec_range hrg hok.1.1)
      have hb5 := HBig.out (by first | rfl | trivial) k a ha
      have HXS := Lib.hid (recA_size a.r hok.1.1)
      have HYS := Lib.hid (actA_size a hok.1.1)
      have HM1 := Lib.hid (fun W => May_any a.r W)
      have HM2 := Lib.hid (fun W => rMay a.r W)
      have HOne := Lib.hid (fun W (h : PS w pd ps pm p q B n W) => show Calls Tryz.prog 9 #[.pointer (some ⟨pd, 0, none⟩), .pointer (some ⟨p, 0, none⟩), .agg (actA a)] W (OneP w pd ps pm p q B n) from by
        obtain ⟨D, E, h1', h2'⟩ := h
        exact one_ok w W pd ps pm p q B n D E a.kind a.n a.r a.A a.c a.b h1' h2' h1 hok.1 hok.2.2.1 hok.2.2.2.1 hb5)
      have hltd : decide ((k : Int) < (l.length : Int)) = true := by simpa using hlt
      have hk0 : (0 : Int) ≤ (k : Int) := by omega
      have hkl : (k : Int) < (l.length : Int) := by omega
      obtain ⟨X, hX⟩ : ∃ X, recA a.r = X := ⟨_, rfl⟩
      obtain ⟨Y, hY⟩ : ∃ Y, actA a = Y := ⟨_, rfl⟩
      obtain ⟨m, hmm⟩ : ∃ m, a.r.may = m := ⟨_, rfl⟩
      rw [hX] at HRR HXS
      rw [hY] at HRA HYS
      simp only [hX, hmm] at HM1 HM2
      simp only [hY] at HOne
      clear hX hY hmm hrg ha hok hb5
      go_wp2_with fail
      refine wp_region_held_drew (S := PS w pd ps pm p q B n) (by kernel_rfl) (HS.out.non (Chg.refl Non _).drew) (fun hHeld => ?_)
      clear hHeld
      have HS : Hid (PS w pd ps pm p q B n wr.drew) := Lib.hid (HS.out.non (Chg.refl Non _).drew)
      generalize wr.drew = v0 at *
      refine h_pure 0 (some 49) (.slice (some ⟨b, o, none⟩) l.length c) rfl (by kernel_rfl) (by kernel_rfl) (by kernel_rfl) (by kernel_rfl) (fun _ _ _ h => h) (by kernel_rfl) (fun W hW => by go_simp) HS.out ?_
      simp only [Act.put, List.setIfInBounds_toArray, List.set_cons_zero, List.set_cons_succ]
      refine h_pure 1 (some 50) (.int .i64 (k : Int)) rfl (by kernel_rfl) (by kernel_rfl) (by kernel_rfl) (by kernel_rfl) (fun _ _ _ h => h) (by kernel_rfl) (fun W hW => by go_simp) HS.out ?_
      simp only [Act.put, List.setIfInBounds_toArray, List.set_cons_zero, List.set_cons_succ]
      refine h_pure 2 (some 51) (.pointer (some ⟨b, o + k * 39, none⟩)) rfl (by kernel_rfl) (by kernel_rfl) (by kernel_rfl) (by kernel_rfl) (fun _ _ _ h => h) (by kernel_rfl) (fun W hW => by go_simp) HS.out ?_
      simp only [Act.put, List.setIfInBounds_toArray, List.set_cons_zero, List.set_cons_succ]
      refine h_pure 3 (some 52) (.pointer (some ⟨b, o + k * 39 + 2, none⟩)) rfl (by kernel_rfl) (by kernel_rfl) (by kernel_rfl) (by kernel_rfl) (fun _ _ _ h => h) (by kernel_rfl) (fun W hW => by go_simp) HS.out ?_
      simp only [Act.put, List.setIfInBounds_toArray, List.set_cons_zero, List.set_cons_succ]
      refine h_load 4 (some 53) 34 (.tmp 52) b (o + k * 39 + 2) X _ rfl (by kernel_rfl) (by kernel_rfl) (by kernel_rfl) (by kernel_rfl) (by kernel_rfl) (fun _ _ _ h => h) (by kernel_rfl) (by kernel_rfl) (fun W hW => range_non hW.chg HRR.out) Tryz.underlying34 rfl (by rw [HXS.out]; exact info_rec) HS.out ?_
      simp only [Act.put, List.setIfInBounds_toArray, List.set_cons_zero, List.set_cons_succ]
      refine h_pure 6 (some 55) (.slice (some ⟨b, o, none⟩) l.length c) rfl (by kernel_rfl) (by kernel_rfl) (by kernel_rfl) (by kernel_rfl) (fun _ _ _ h => h) (by kernel_rfl) (fun W hW => by go_simp) HS.out ?_
      simp only [Act.put, List.setIfInBounds_toArray, List.set_cons_zero, List.set_cons_succ]
      refine h_pure 7 (some 56) (.int .i64 (k : Int)) rfl (by kernel_rfl) (by kernel_rfl) (by kernel_rfl) (by kernel_rfl) (fun _ _ _ h => h) (by kernel_rfl) (fun W hW => by go_simp) HS.out ?_
      simp only [Act.put, List.setIfInBounds_toArray, List.set_cons_zero, List.set_cons_succ]
      refine h_pure 8 (some 57) (.pointer (some ⟨b, o + k * 39, none⟩)) rfl (by kernel_rfl) (by kernel_rfl) (by kernel_rfl) (by kernel_rfl) (fun _ _ _ h => h) (by kernel_rfl) (fun W hW => by go_simp) HS.out ?_
      simp only [Act.put, List.setIfInBounds_toArray, List.set_cons_zero, List.set_cons_succ]
      refine h_pure 9 (some 58) (.pointer (some ⟨b, o + k * 39 + 2, none⟩)) rfl (by kernel_rfl) (by kernel_rfl) (by kernel_rfl) (by kernel_rfl) (fun _ _ _ h => h) (by kernel_rfl) (fun W hW => by go_simp) HS.out ?_
      simp only [Act.put, List.setIfInBounds_toArray, List.set_cons_zero, List.set_cons_succ]
      refine h_load 10 (some 59) 34 (.tmp 58) b (o + k * 39 + 2) X _ rfl (by kernel_rfl) (by kernel_rfl) (by kernel_rfl) (by kernel_rfl) (by kernel_rfl) (fun _ _ _ h => h) (by kernel_rfl) (by kernel_rfl) (fun W hW => range_non hW.chg HRR.out) Tryz.underlying34 rfl (by rw [HXS.out]; exact info_rec) HS.out ?_
      simp only [Act.put, List.setIfInBounds_toArray, List.set_cons_zero, List.set_cons_succ]
      refine h_one 5 (by kernel_rfl) rfl (by kernel_rfl) ?_
      intro K hK
      go_simp
      refine (HM1.out _).mono ?_
      rintro e u1 ⟨rfl, hg⟩
      have HS1 := Lib.hid (HS.out.non hg)
      clear hg
      refine hK.out _ _ HS1.out (fun _ => ?_)
      clear hK K
      try simp only [Act.put, List.setIfInBounds_toArray, List.set_cons_zero, List.set_cons_succ]
      refine h_one 11 (by kernel_rfl) rfl (by kernel_rfl) ?_
      intro K hK
      go_simp
      refine (HM2.out _).mono ?_
      rintro e u2 ⟨rfl, hg⟩
      have HS2 := Lib.hid (HS1.out.non hg)
      clear hg
      refine hK.out _ _ HS2.out (fun _ => ?_)
      clear hK K
      try simp only [Act.put, List.setIfInBounds_toArray, List.set_cons_zero, List.set_cons_succ]
      refine h_pure 12 (some 61) (.bool false) rfl (by kernel_rfl) (by kernel_rfl) (by kernel_rfl) (by kernel_rfl) (fun _ _ _ h => h) (by kernel_rfl) (fun W hW => by go_simp) HS2.out ?_
      simp only [Act.put, List.setIfInBounds_toArray, List.set_cons_zero, List.set_cons_succ]
      refine h_pure 13 (some 62) (.bool false) rfl (by kernel_rfl) (by kernel_rfl) (by kernel_rfl) (by kernel_rfl) (fun _ _ _ h => h) (by kernel_rfl) (fun W hW => by go_simp) HS2.out ?_
      simp only [Act.put, List.setIfInBounds_toArray, List.set_cons_zero, List.set_cons_succ]
      refine h_pure 14 (some 63) (.pointer (some ⟨pd, 0, none⟩)) rfl (by kernel_rfl) (by kernel_rfl) (by kernel_rfl) (by kernel_rfl) (fun _ _ _ h => h) (by kernel_rfl) (fun W hW => by go_simp) HS2.out ?_
      simp only [Act.put, List.setIfInBounds_toArray, List.set_cons_zero, List.set_cons_succ]
      refine h_pure 15 (some 64) (.pointer (some ⟨p, 0, none⟩)) rfl (by kernel_rfl) (by kernel_rfl) (by kernel_rfl) (by kernel_rfl) (fun _ _ _ h => h) (by kernel_rfl) (fun W hW => by go_simp) HS2.out ?_
      simp only [Act.put, List.setIfInBounds_toArray, List.set_cons_zero, List.set_cons_succ]
      refine h_pure 16 (some 65) (.slice (some ⟨b, o, none⟩) l.length c) rfl (by kernel_rfl) (by kernel_rfl) (by kernel_rfl) (by kernel_rfl) (fun _ _ _ h => h) (by kernel_rfl) (fun W hW => by go_simp) HS2.out ?_
      simp only [Act.put, List.setIfInBounds_toArray, List.set_cons_zero, List.set_cons_succ]
      refine h_pure 17 (some 66) (.int .i64 (k : Int)) rfl (by kernel_rfl) (by kernel_rfl) (by kernel_rfl) (by kernel_rfl) (fun _ _ _ h => h) (by kernel_rfl) (fun W hW => by go_simp) HS2.out ?_
      simp only [Act.put, List.setIfInBounds_toArray, List.set_cons_zero, List.set_cons_succ]
      refine h_pure 18 (some 67) (.pointer (some ⟨b, o + k * 39, none⟩)) rfl (by kernel_rfl) (by kernel_rfl) (by kernel_rfl) (by kernel_rfl) (fun _ _ _ h => h) (by kernel_rfl) (fun W hW => by go_simp) HS2.out ?_
      simp only [Act.put, List.setIfInBounds_toArray, List.set_cons_zero, List.set_cons_succ]
      refine h_load 19 (some 68) 37 (.tmp 67) b (o + k * 39) Y _ rfl (by kernel_rfl) (by kernel_rfl) (by kernel_rfl) (by kernel_rfl) (by kernel_rfl) (fun _ _ _ h => h) (by kernel_rfl) (by kernel_rfl) (fun W hW => range_non hW.chg HRA.out) Tryz.underlying37 rfl (by rw [HYS.out]; exact info_act) HS2.out ?_
      simp only [Act.put, List.setIfInBounds_toArray, List.set_cons_zero, List.set_cons_succ]
      refine h_one 20 (by kernel_rfl) rfl (by kernel_rfl) ?_
      intro K hK
      go_simp
      refine (HOne.out _ HS2.out).mono ?_
      rintro e u3 ⟨rfl, D, E, hH, hT⟩
      have HH := Lib.hid hH
      have HT := Lib.hid hT
      have HUp := Lib.hid (hf_up hH)
      have HDn : Hid (∀ W, Hf w pd ps pm p q B D E W → W.cell? ⟨p, 1, none⟩ = some (.bool E.down)) := Lib.hid (fun W hW => by obtain ⟨_, _, _, _, h1, _⟩ := hW.rk.cells; exact h1)
      have hud : (D.up == E.down) = false := by rw [hT.same.up]; cases E.down <;> rfl
      obtain ⟨du, hdu⟩ : ∃ du, D.up = du := ⟨_, rfl⟩
      obtain ⟨dd, hdd⟩ : ∃ dd, E.down = dd := ⟨_, rfl⟩
      rw [hdu] at HUp hud
      simp only [hdd] at HDn hud
      have HDU := Lib.hid hdu
      clear hH hT hdd hdu
      refine hK.out _ _ ⟨D, E, HH.out, HT.out⟩ (fun _ => ?_)
      clear hK K
      try simp only [Act.put, List.setIfInBounds_toArray, List.set_cons_zero, List.set_cons_succ]
      refine h_mono (S' := Hf w pd ps pm p q B D E) (fun W h => ⟨D, E, h, HT.out⟩) _ _ _ _ ?_
      refine h_pure 21 (some 70) (.bool false) rfl (by kernel_rfl) (by kernel_rfl) (by kernel_rfl) (by kernel_rfl) (fun _ _ _ h => h) (by kernel_rfl) (fun W hW => by go_simp) HH.out ?_
      simp only [Act.put, List.setIfInBounds_toArray, List.set_cons_zero, List.set_cons_succ]
      refine h_pure 22 (some 71) (.bool false) rfl (by kernel_rfl) (by kernel_rfl) (by kernel_rfl) (by kernel_rfl) (fun _ _ _ h => h) (by kernel_rfl) (fun W hW => by go_simp) HH.out ?_
      simp only [Act.put, List.setIfInBounds_toArray, List.set_cons_zero, List.set_cons_succ]
      refine h_pure 23 (some 72) (.bool false) rfl (by kernel_rfl) (by kernel_rfl) (by kernel_rfl) (by kernel_rfl) (fun _ _ _ h => h) (by kernel_rfl) (fun W hW => by go_simp) HH.out ?_
      simp only [Act.put, List.setIfInBounds_toArray, List.set_cons_zero, List.set_cons_succ]
      refine h_pure 24 (some 73) (.pointer (some ⟨pd, 0, none⟩)) rfl (by kernel_rfl) (by kernel_rfl) (by kernel_rfl) (by kernel_rfl) (fun _ _ _ h => h) (by kernel_rfl) (fun W hW => by go_simp) HH.out ?_
      simp only [Act.put, List.setIfInBounds_toArray, List.set_cons_zero, List.set_cons_succ]
      refine h_pure 26 (some 75) (.pointer (some ⟨p, 0, none⟩)) rfl (by kernel_rfl) (by kernel_rfl) (by kernel_rfl) (by kernel_rfl) (fun _ _ _ h => h) (by kernel_rfl) (fun W hW => by go_simp) HH.out ?_
      simp only [Act.put, List.setIfInBounds_toArray, List.set_cons_zero, List.set_cons_succ]
      refine h_pure 27 (some 76) (.pointer (some ⟨p, 0, none⟩)) rfl (by kernel_rfl) (by kernel_rfl) (by kernel_rfl) (by kernel_rfl) (fun _ _ _ h => h) (by kernel_rfl) (fun W hW => by go_simp) HH.out ?_
      simp only [Act.put, List.setIfInBounds_toArray, List.set_cons_zero, List.set_cons_succ]
      refine h_pure 28 (some 77) (.pointer (some ⟨p, 1, none⟩)) rfl (by kernel_rfl) (by kernel_rfl) (by kernel_rfl) (by kernel_rfl) (fun _ _ _ h => h) (by kernel_rfl) (fun W hW => by go_simp) HH.out ?_
      simp only [Act.put, List.setIfInBounds_toArray, List.set_cons_zero, List.set_cons_succ]
      refine h_pure 29 (some 78) (.bool dd) rfl (by kernel_rfl) (by kernel_rfl) (by kernel_rfl) (by kernel_rfl) (fun _ _ _ h => h) (by kernel_rfl) (fun W hW => by have hcell := HDn.out W hW; go_simp) HH.out ?_
      simp only [Act.put, List.setIfInBounds_toArray, List.set_cons_zero, List.set_cons_succ]
      refine h_one 25 (by kernel_rfl) rfl (by kernel_rfl) ?_
      intro K hK
      go_simp
      refine HUp.out.mono ?_
      rintro e u4 ⟨rfl, rfl⟩
      refine hK.out _ _ HH.out (fun _ => ?_)
      clear hK K
      try simp only [Act.put, List.setIfInBounds_toArray, List.set_cons_zero, List.set_cons_succ]
      refine h_pure 30 (some 79) (.bool false) rfl (by kernel_rfl) (by kernel_rfl) (by kernel_rfl) (by kernel_rfl) (fun _ _ _ h => h) (by kernel_rfl) (fun W hW => by go_simp) HH.out ?_
      simp only [Act.put, List.setIfInBounds_toArray, List.set_cons_zero, List.set_cons_succ]
      refine h_pure 31 (some 80) (.bool false) rfl (by kernel_rfl) (by kernel_rfl) (by kernel_rfl) (by kernel_rfl) (fun _ _ _ h => h) (by kernel_rfl) (fun W hW => by go_simp) HH.out ?_
      simp only [Act.put, List.setIfInBounds_toArray, List.set_cons_zero, List.set_cons_succ]
      refine wpAnyH_done (by kernel_rfl) ?_ _
      clear HM1 HM2 HOne HXS HYS HRR HRA HDn HUp HS1 HS2 HS HP0
      have HGt := Lib.hid (fun W (h : Hf w pd ps pm p q B D E W) => hf_get h HT.out h1)
      have HGr := Lib.hid (fun W (h : Hf w pd ps pm p q B D E W) => hf_rget h HT.out h1)
      obtain ⟨hb1, hb2⟩ := gTell_bd D
      obtain ⟨q1, hq1, hr1⟩ := eq_rec (gTell D).1 (gTell D).1 hb1 hb1
      obtain ⟨q2, hq2, hr2⟩ := eq_rec (gTell D).2.1 (gTell D).2.1 hb2 hb2
      obtain rfl : q1 = true := hq1.2 rfl
      obtain rfl : q2 = true := hq2.2 rfl
      have HZ1 := Lib.hid (recA_size _ hb1.1)
      have HZ2 := Lib.hid (recA_size _ hb2.1)
      have HO1 := Lib.hid (recA_one (gTell D).1)
      have HO2 := Lib.hid (recA_one (gTell D).2.1)
      obtain ⟨X1, hX1⟩ : ∃ X, recA (gTell D).1 = X := ⟨_, rfl⟩
      obtain ⟨X2, hX2⟩ : ∃ X, recA (gTell D).2.1 = X := ⟨_, rfl⟩
      obtain ⟨er, her⟩ : ∃ er, (gTell D).2.2 = er := ⟨_, rfl⟩
      simp only [hX1, hX2, her] at HGt HGr HZ1 HZ2 HO1 HO2 hr1 hr2
      have hneq1 : ∀ W, (binOp .neq 34 (.agg X1) (.agg X1)).run Tryz.prog W = .ok (.bool false) W := fun W => (hr1 W).2
      have hneq2 : ∀ W, (binOp .neq 34 (.agg X2) (.agg X2)).run Tryz.prog W = .ok (.bool false) W := fun W => (hr2 W).2
      clear hb1 hb2 hq1 hq2 hr1 hr2 hX1 hX2 her
      go_wp2_with fail
      refine (HGt.out _ HH.out).mono ?_
      rintro e v1 ⟨rfl, hg⟩
      have HG1 := Lib.hid hg
      clear hg
      go_wp2_with (first
        | (refine sel none (.store 34 (.tmp 9) (.tmp 84)) ?_
           refine wpList_store_rowA rfl 34 (.tmp 9) (.tmp 84) rfl v1.heap.size X1 rfl rfl 34 _ (heap_alloc2_old _ _ _) (by rw [HZ1.out]; exact info_rec) (by rw [HZ1.out]; rfl) HO1.out ?_
           intro y1 hy1 hz1
           have HY1 := Lib.hid (And.intro hy1 hz1)
           have HYn : Hid (y1.heap[v1.heap.size + 1]? = some _) := Lib.hid ((hy1.block _ (by simp) (by omega)).trans (heap_alloc2_new _ _ _))
           clear hy1 hz1)
        | (refine sel none (.store 34 (.tmp 10) (.tmp 85)) ?_
           refine wpList_store_rowA rfl 34 (.tmp 10) (.tmp 85) rfl (v1.heap.size + 1) X2 rfl rfl 34 _ HYn.out (by rw [HZ2.out]; exact info_rec) (by rw [HZ2.out]; rfl) HO2.out ?_
           intro y2 hy2 hz2
           have HT1 := Lib.hid (Tld.mk2 HG1.out rfl _ _ HY1.out.1 HY1.out.2 hy2 hz2)
           clear hy2 hz2))
      refine (HGr.out _ (HH.out.non HT1.out.chg)).mono ?_
      rintro e v2 ⟨rfl, hg⟩
      have HG2 := Lib.hid hg
      clear hg
      go_wp2_with (first
        | (refine sel none (.store 34 (.tmp 12) (.tmp 90)) ?_
           refine wpList_store_rowA rfl 34 (.tmp 12) (.tmp 90) rfl v2.heap.size X1 rfl rfl 34 _ (heap_alloc2_old _ _ _) (by rw [HZ1.out]; exact info_rec) (by rw [HZ1.out]; rfl) HO1.out ?_
           intro y3 hy3 hz3
           have HY3 := Lib.hid (And.intro hy3 hz3)
           have HYm : Hid (y3.heap[v2.heap.size + 1]? = some _) := Lib.hid ((hy3.block _ (by simp) (by omega)).trans (heap_alloc2_new _ _ _))
           clear hy3 hz3)
        | (refine sel none (.store 34 (.tmp 13) (.tmp 91)) ?_
           refine wpList_store_rowA rfl 34 (.tmp 13) (.tmp 91) rfl (v2.heap.size + 1) X2 rfl rfl 34 _ HYm.out (by rw [HZ2.out]; exact info_rec) (by rw [HZ2.out]; rfl) HO2.out ?_
           intro y4 hy4 hz4
           have HT2 := Lib.hid (Tld.mk2 HG2.out rfl _ _ HY3.out.1 HY3.out.2 hy4 hz4)
           have HT1 := Lib.hid (HT1.out.non HT2.out.chg)
           clear hy4 hz4)
        | (refine sel (some 93) (.load 34 (.tmp 9)) ?_; refine wpList_load_rec rfl (.tmp 9) rfl v1.heap.size 0 rfl X1 (range_block HT1.out.a) HZ1.out ?_)
        | (refine sel (some 94) (.load 34 (.tmp 12)) ?_; refine wpList_load_rec rfl (.tmp 12) rfl v2.heap.size 0 rfl X1 (range_block HT2.out.a) HZ1.out ?_)
        | (refine sel (some 97) (.load 34 (.tmp 10)) ?_; refine wpList_loadW (some 97) 34 (.tmp 10) (v1.heap.size + 1) 0 X2 _ rfl rfl (by kernel_rfl) rfl (range_block HT1.out.b) Tryz.underlying34 rfl (by rw [HZ2.out]; exact info_rec) ?_)
        | (refine sel (some 98) (.load 34 (.tmp 13)) ?_; refine wpList_loadW (some 98) 34 (.tmp 13) (v2.heap.size + 1) 0 X2 _ rfl rfl (by kernel_rfl) rfl (range_block HT2.out.b) Tryz.underlying34 rfl (by rw [HZ2.out]; exact info_rec) ?_))
      have HH := Lib.hid (HH.out.non HT1.out.chg)
      clear HT1 HT2 HG1 HG2 HGt HGr hneq1 hneq2 HY1 HYn HY3 HYm
      go_loopw [15] (fun jv wr => ∃ j : Nat, j ≤ n ∧ jv = .int .i64 j ∧ Hid (Hf w pd ps pm p q B D E wr)) (fun jv _ => n - (intOf jv).toNat)
      case atStart => exact ⟨0, Nat.zero_le _, rfl, HH⟩
      case round =>
        obtain ⟨j, hj, rfl, HJ⟩ := hrel
        by_cases hjn : j < n
        · have hjd : decide ((j : Int) < (n : Int)) = true := by simpa using hjn
          have hj0 : (0 : Int) ≤ (j : Int) := by omega
          have hjl : (j : Int) < (n : Int) := by omega
          have HRd := Lib.hid (hf_read HJ.out HT.out j hjn)
          have HRr := Lib.hid (fun W (h : Chg Non wr W) => hf_rread (HJ.out.non h) HT.out j hjn)
          have hbl : (dAt D j).length ≤ 64 := dAt_len HT.out.ok (by rw [HT.out.dlen]; exact hjn)
          obtain ⟨b1, hb1⟩ : ∃ b1, dAt D j = b1 := ⟨_, rfl⟩
          simp only [hb1] at HRd HRr hbl
          have HBL := Lib.hid hbl
          clear hb1 hbl
          go_wp2_with fail
          refine HRd.out.mono ?_
          rintro e u1 ⟨A1, c1, er1, rfl, e1, e2, e3, e4⟩
          have HRd1 := Lib.hid e3
          have HC1 := Lib.hid e4
          clear e1 e2 e3 e4
          go_wp2_with fail
          refine (HRr.out u1 HC1.out).mono ?_
          rintro e u2 ⟨A2, c2, er2, rfl, e1, e2, e3, e4⟩
          have HRd2 := Lib.hid e3
          have HRd1 := Lib.hid (HRd1.out.non e4)
          have HJ2 := Lib.hid (HJ.out.non (HC1.out.then_non e4))
          clear e1 e2 e3 e4
          have HSm := Lib.hid (rSame A1 b1 c1 A2 b1 c2 u2.drew (HRd1.out.non (Chg.refl Non _).drew) (HRd2.out.non (Chg.refl Non _).drew) (by have := HBL.out; omega) (by have := HBL.out; omega))
          simp only [decide_true] at HSm
          obtain ⟨⟨cap, kp0, kc1, kc2⟩, fb, fo, fk, kq0, frd, fl⟩ := hf_rflushed HJ2.out HT.out j hjn
          unfold maxLen at kc2
          have HFl := Lib.hid (fun W (h : Chg Non u2 W) => hf_flushed (HJ2.out.non h) HT.out j hjn)
          have HSf := Lib.hid (fun A3 c3 W (hr3 : Rd W A3 (D.sec.getD j [])) (h : Chg Non u2 W) => rSame A3 (D.sec.getD j []) c3 (some ⟨fb, fo, none⟩) (D.sec.getD j []) fk W hr3 (frd.non h) (by rw [fl]; omega) (by rw [fl]; omega))
          simp only [decide_true, fl] at HSf
          have HFL := Lib.hid fl
          clear frd fl
          go_wp2_with fail
          refine wp_region_held_drew (S := Chg Non u2) (by kernel_rfl) (Chg.refl Non _).drew (fun hHeld => ?_)
          clear hHeld
          refine h_pure 0 (some 123) (.slice A1 b1.length c1) rfl (by kernel_rfl) (by kernel_rfl) (by kernel_rfl) (by kernel_rfl) (fun _ _ _ h => h) (by kernel_rfl) (fun W hW => by go_simp) (Chg.refl Non _).drew ?_
          simp only [Act.put, List.setIfInBounds_toArray, List.set_cons_zero, List.set_cons_succ]
          refine h_pure 1 (some 124) (.slice A2 b1.length c2) rfl (by kernel_rfl) (by kernel_rfl) (by kernel_rfl) (by kernel_rfl) (fun _ _ _ h => h) (by kernel_rfl) (fun W hW => by go_simp) (Chg.refl Non _).drew ?_
          simp only [Act.put, List.setIfInBounds_toArray, List.set_cons_zero, List.set_cons_succ]
          refine h_one 2 (by kernel_rfl) rfl (by kernel_rfl) ?_
          intro K hK
          go_simp
          refine HSm.out.mono ?_
          rintro e u3 ⟨rfl, hg⟩
          have HG3 : Hid (Chg Non u2 u3) := Lib.hid ((Chg.refl Non _).drew.then_non hg)
          clear hg
          refine hK.out _ _ HG3.out (fun _ => ?_)
          clear hK K
          try simp only [Act.put, List.setIfInBounds_toArray, List.set_cons_zero, List.set_cons_succ]
          refine h_pure 3 (some 126) (.bool false) rfl (by kernel_rfl) (by kernel_rfl) (by kernel_rfl) (by kernel_rfl) (fun _ _ _ h => h) (by kernel_rfl) (fun W hW => by go_simp) HG3.out ?_
          simp only [Act.put, List.setIfInBounds_toArray, List.set_cons_zero, List.set_cons_succ]
          refine h_pure 4 (some 127) (.bool false) rfl (by kernel_rfl) (by kernel_rfl) (by kernel_rfl) (by kernel_rfl) (fun _ _ _ h => h) (by kernel_rfl) (fun W hW => by go_simp) HG3.out ?_
          simp only [Act.put, List.setIfInBounds_toArray, List.set_cons_zero, List.set_cons_succ]
          refine h_pure 5 (some 128) (.pointer (some ⟨pd, 0, none⟩)) rfl (by kernel_rfl) (by kernel_rfl) (by kernel_rfl) (by kernel_rfl) (fun _ _ _ h => h) (by kernel_rfl) (fun W hW => by go_simp) HG3.out ?_
          simp only [Act.put, List.setIfInBounds_toArray, List.set_cons_zero, List.set_cons_succ]
          refine h_pure 6 (some 129) (.int .i64 (j : Int)) rfl (by kernel_rfl) (by kernel_rfl) (by kernel_rfl) (by kernel_rfl) (fun _ _ _ h => h) (by kernel_rfl) (fun W hW => by go_simp) HG3.out ?_
          simp only [Act.put, List.setIfInBounds_toArray, List.set_cons_zero, List.set_cons_succ]
          refine h_pure 8 (some 131) (.pointer (some ⟨p, 0, none⟩)) rfl (by kernel_rfl) (by kernel_rfl) (by kernel_rfl) (by kernel_rfl) (fun _ _ _ h => h) (by kernel_rfl) (fun W hW => by go_simp) HG3.out ?_
          simp only [Act.put, List.setIfInBounds_toArray, List.set_cons_zero, List.set_cons_succ]
          refine h_pure 9 (some 132) (.pointer (some ⟨p, 0, none⟩)) rfl (by kernel_rfl) (by kernel_rfl) (by kernel_rfl) (by kernel_rfl) (fun _ _ _ h => h) (by kernel_rfl) (fun W hW => by go_simp) HG3.out ?_
          simp only [Act.put, List.setIfInBounds_toArray, List.set_cons_zero, List.set_cons_succ]
          refine h_pure 10 (some 133) (.pointer (some ⟨p, 0, none⟩)) rfl (by kernel_rfl) (by kernel_rfl) (by kernel_rfl) (by kernel_rfl) (fun _ _ _ h => h) (by kernel_rfl) (fun W hW => by go_simp) HG3.out ?_
          simp only [Act.put, List.setIfInBounds_toArray, List.set_cons_zero, List.set_cons_succ]
          refine h_pure 11 (some 134) (.slice (some ⟨q, 0, none⟩) n cap) rfl (by kernel_rfl) (by kernel_rfl) (by kernel_rfl) (by kernel_rfl) (fun _ _ _ h => h) (by kernel_rfl) (fun W hW => by have hcell := hW.cell_some kp0 (fun e => e); go_simp) HG3.out ?_
          simp only [Act.put, List.setIfInBounds_toArray, List.set_cons_zero, List.set_cons_succ]
          refine h_pure 12 (some 135) (.int .i64 (j : Int)) rfl (by kernel_rfl) (by kernel_rfl) (by kernel_rfl) (by kernel_rfl) (fun _ _ _ h => h) (by kernel_rfl) (fun W hW => by go_simp) HG3.out ?_
          simp only [Act.put, List.setIfInBounds_toArray, List.set_cons_zero, List.set_cons_succ]
          refine h_pure 13 (some 136) (.pointer (some ⟨q, j * 2, none⟩)) rfl (by kernel_rfl) (by kernel_rfl) (by kernel_rfl) (by kernel_rfl) (fun _ _ _ h => h) (by kernel_rfl) (fun W hW => by go_simp) HG3.out ?_
          simp only [Act.put, List.setIfInBounds_toArray, List.set_cons_zero, List.set_cons_succ]
          refine h_pure 14 (some 137) (.pointer (some ⟨q, j * 2, none⟩)) rfl (by kernel_rfl) (by kernel_rfl) (by kernel_rfl) (by kernel_rfl) (fun _ _ _ h => h) (by kernel_rfl) (fun W hW => by go_simp) HG3.out ?_
          simp only [Act.put, List.setIfInBounds_toArray, List.set_cons_zero, List.set_cons_succ]
          refine h_pure 15 (some 138) (.slice (some ⟨fb, fo, none⟩) 64 fk) rfl (by kernel_rfl) (by kernel_rfl) (by kernel_rfl) (by kernel_rfl) (fun _ _ _ h => h) (by kernel_rfl) (fun W hW => by have hcell := hW.cell_some kq0 (fun e => e); go_simp) HG3.out ?_
          simp only [Act.put, List.setIfInBounds_toArray, List.set_cons_zero, List.set_cons_succ]
          refine h_one 7 (by kernel_rfl) rfl (by kernel_rfl) ?_
          intro K hK
          go_simp
          refine (HFl.out _ HG3.out).mono ?_
          rintro e u4 ⟨A3, c3, rfl, g1, g2, g3, g4⟩
          rw [HFL.out]
          have HG4 : Hid (Chg Non u2 u4) := Lib.hid (HG3.out.then_non g4)
          have HR3 := Lib.hid g3.rd
          clear g1 g2 g3 g4
          refine hK.out _ _ HG4.out (fun _ => ?_)
          clear hK K
          try simp only [Act.put, List.setIfInBounds_toArray, List.set_cons_zero, List.set_cons_succ]
          refine h_one 16 (by kernel_rfl) rfl (by kernel_rfl) ?_
          intro K hK
          go_simp
          refine (HSf.out A3 c3 _ HR3.out HG4.out).mono ?_
          rintro e u5 ⟨rfl, hg⟩
          have HG5 : Hid (Chg Non u2 u5) := Lib.hid (HG4.out.then_non hg)
          clear hg
          refine hK.out _ _ HG5.out (fun _ => ?_)
          clear hK K
          try simp only [Act.put, List.setIfInBounds_toArray, List.set_cons_zero, List.set_cons_succ]
          refine h_pure 17 (some 140) (.bool false) rfl (by kernel_rfl) (by kernel_rfl) (by kernel_rfl) (by kernel_rfl) (fun _ _ _ h => h) (by kernel_rfl) (fun W hW => by go_simp) HG5.out ?_
          simp only [Act.put, List.setIfInBounds_toArray, List.set_cons_zero, List.set_cons_succ]
          refine h_pure 18 (some 141) (.bool false) rfl (by kernel_rfl) (by kernel_rfl) (by kernel_rfl) (by kernel_rfl) (fun _ _ _ h => h) (by kernel_rfl) (fun W hW => by go_simp) HG5.out ?_
          simp only [Act.put, List.setIfInBounds_toArray, List.set_cons_zero, List.set_cons_succ]
          refine wpAnyH_done (by kernel_rfl) ?_ _
          have HJ5 := Lib.hid (HJ2.out.non HG5.out)
          clear HG3 HG4 HG5 HFl HSf HSm HRd HRr
          go_wp2_with fail
          exact ⟨⟨j + 1, by omega, by go_num, HJ5⟩, by simp [intOf]; omega⟩
        · obtain rfl : j = n := by omega
          have hjd : decide ((j : Int) < (j : Int)) = false := by simp
          have HPS : Hid (PS w pd ps pm p q B j wr) := Lib.hid ⟨D, E, HJ.out, HT.out⟩
          go_wp2_with fail
          exact ⟨⟨k + 1, by omega, by go_num, HPS⟩, by simp [intOf]; omega⟩
    · obtain rfl : k = l.length := by omega
      have hltd : decide ((l.length : Int) < (l.length : Int)) = false := by simp
      go_wp2_with fail
      go_ret
      exact ⟨rfl, HS.out.chg⟩

set_option maxRecDepth 100000 in
set_option maxHeartbeats 2000000 in
theorem CommitPlays_ok (n : Int) (A : Option Addr) (l : List ActV) (c : Nat) (w : World) (hr : RdA w A l) (hc : l.length ≤ c) (hm : c ≤ maxLen) :
    Calls Tryz.prog 3 #[.int .i64 n, .slice A l.length c] w fun e w' => e = .returned (.bool true) ∧ Chg Non w w' := by
  by_cases h1 : n < 1
  · have d1 : decide (n < 1) = true := by simpa using h1
    clear hr hc hm
    go_enter Tryz.func3, Tryz.ntmps3
    go_wp2_with fail
    go_ret
    exact ⟨rfl, Chg.refl _ _⟩
  by_cases h4 : 4 < n
  · have d1 : decide (n < 1) = false := by simpa using h1
    have d2 : decide (4 < n) = true := by simpa using h4
    clear hr hc hm
    go_enter Tryz.func3, Tryz.ntmps3
    go_wp2_with fail
    go_ret
    exact ⟨rfl, Chg.refl _ _⟩
  obtain ⟨m, rfl⟩ : ∃ m : Nat, n = m := ⟨n.toNat, by omega⟩
  exact CommitPlays_in m A l c w hr hc hm (by omega) (by omega)
end Go.Proofs.YtgmpacndjmmgjaaGreat
end
