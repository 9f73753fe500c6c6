/- CheckPlays, part 19 of 27: contracts of the functions that it reaches, and the laws that they need, merged and shortened (from my texts XCkH, XCkJ, XWnil, XCkN, XStO, XCkO, XInR, XDiskF). -/
import Derived.Test.YtkgnlobabknkcaaGreatMgCheckPlaysA
import Derived.Test.YtkgnlobabknkcaaGreatMgCheckPlaysK
import Derived.Test.YtkgnlobabknkcaaGreatMgCheckPlaysM
import Derived.Test.YtkgnlobabknkcaaGreatMgCheckPlaysR
import Derived.Test.YtkgnlobabknkcaaGreatRows
import Derived.WalkKit
import Derived.WalkSpells
import Derived.WalkLawsBesides
import Derived.OrdersIn
import Derived.ControlIn
import Derived.TacticsIn
import Derived.RangeFuncCalls
namespace Go.Proofs.YtkgnlobabknkcaaGreat
set_option linter.unusedVariables false
set_option linter.unusedSimpArgs false
set_option maxHeartbeats 8000000
set_option maxRecDepth 100000
section
open Go.RowKit Go.Shelf
structure FdIs (B : Nat) (w : World) (F : Array Value) (o : Option (Int × List UInt8 × Sta)) : Prop where
 size : F.size = 38
 one : F.all (·.oneCell') = true
 num : F[0]? = some (.int .i64 (kNum o))
 is : (o = none ∧ F = zFd) ∨ ∃ n hash s sz sum vb vd, o = some (n, hash, s) ∧ hash.length = 32 ∧ F = fdA (tiA n sz hash sum) s.frames vb vd ∧ StaO B w s vb vd
theorem FdIs.zero (B : Nat) (w : World) : FdIs B w zFd none := ⟨zFd_size, zFd_one, rfl, .inl ⟨rfl, rfl⟩⟩
theorem FdIs.keep {B B' : Nat} {T : Nat → Prop} {w w' : World} {F : Array Value} {o : Option (Int × List UInt8 × Sta)} (h : FdIs B w F o) (hg : Chg T w w') (hn : ∀ x, B ≤ x → ¬ T x) (hB : B' ≤ B) : FdIs B' w' F o :=
 ⟨h.size, h.one, h.num, h.is.imp id fun ⟨n, hash, s, sz, sum, vb, vd, h1, h2, h3, h4⟩ => ⟨n, hash, s, sz, sum, vb, vd, h1, h2, h3, h4.keepB hg hn hB⟩⟩
def GetR (D : Dk) (p B : Nat) (w : World) (F : Array Value) (er : Int) : Prop :=
 (D.up = false ∧ er = 60 ∧ F = zFd) ∨ (D.up = true ∧ D.sec.length ≤ 226 + 96 * p ∧ er = 61 ∧ F = zFd) ∨ (D.up = true ∧ 226 + 96 * p < D.sec.length ∧ er = 0 ∧ FdIs B w F (kAt D p))
theorem GetR.rest {D : Dk} {p B : Nat} {w : World} {F : Array Value} {er : Int} (h : GetR D p B w F er) : F.size = 38 ∧ F.all (·.oneCell') = true := by
 rcases h with ⟨_, _, rfl⟩ | ⟨_, _, _, rfl⟩ | ⟨_, _, _, h⟩
 ·exact ⟨zFd_size, zFd_one⟩
 ·exact ⟨zFd_size, zFd_one⟩
 ·exact ⟨h.size, h.one⟩
theorem GetR.keep {D : Dk} {p B B' : Nat} {T : Nat → Prop} {w w' : World} {F : Array Value} {er : Int} (h : GetR D p B w F er) (hg : Chg T w w') (hn : ∀ x, B ≤ x → ¬ T x) (hB : B' ≤ B) : GetR D p B' w' F er :=
 h.imp id (fun h => h.imp id (fun ⟨h1, h2, h3, h4⟩ => ⟨h1, h2, h3, h4.keep hg hn hB⟩))
theorem get_all (pd ps pm p : Nat) (hp2 : p < 2) (D : Dk) (w : World) (h : IsD w pd ps pm D) :
  Calls Tryz.prog 65 #[.pointer (some ⟨pd, 0, none⟩), .int .i64 (p : Int)] w fun e w' => ∃ F er, e = .returned (.tuple #[.agg F, .int .i64 er]) ∧ GetR D p w.heap.size w' F er ∧ Chg Non w w' := by
 refine (callsIn_wide.1 (get_in pd ps pm p hp2 D w h)).mono ?_
 rintro e w' (⟨h1, rfl, hg⟩ | ⟨h1, h2, rfl, hg⟩ | ⟨h1, h2, h3, rfl, hg⟩ | ⟨h1, h2, n, hash, s, sz, sum, vb, vd, h3, h4, rfl, h5, hg⟩)
 ·exact ⟨_, _, rfl, .inl ⟨h1, rfl, rfl⟩, hg⟩
 ·exact ⟨_, _, rfl, .inr (.inl ⟨h1, h2, rfl, rfl⟩), hg⟩
 ·exact ⟨_, _, rfl, .inr (.inr ⟨h1, h2, rfl, by rw [h3]; exact FdIs.zero _ _⟩), hg⟩
 ·refine ⟨_, _, rfl, .inr (.inr ⟨h1, h2, rfl, ?_⟩), hg⟩
  obtain ⟨A2, c2, rfl, _⟩ := h5.ps.rd
  obtain ⟨A3, c3, rfl, _⟩ := h5.qs.rd
  rw [h3]
  exact ⟨fdA_size _ _ _ _ (tiA_size _ _ _ h4), fdA_one _ _ _ _ _ _ _ _ (tiA_one _ _ _ _), rfl, .inr ⟨n, hash, s, sz, sum, _, _, rfl, h4, rfl, h5⟩⟩
theorem placeOf_ok (pd p : Nat) (w : World) :
  Calls Tryz.prog 31 #[.int .i64 (p : Int), .pointer (some ⟨pd, 0, none⟩)] w fun e w' => e = .returned (.func (.func 64) #[] #[.pointer (some ⟨w.heap.size + 1, 0, none⟩), .pointer (some ⟨w.heap.size, 0, none⟩)]) ∧
   w' = (w.alloc (.cells #[.int .i64 (p : Int)] 82)).alloc (.cells #[.pointer (some ⟨pd, 0, none⟩)] 33) := by
 have hmf := mk_func
 go_enter Tryz.func31, Tryz.ntmps31
 go_wp2
 go_ret
 exact ⟨rfl, rfl⟩
theorem of1_ok (pd ps pm p bd bp : Nat) (hp2 : p < 2) (D : Dk) (w : World) (h : IsD w pd ps pm D) (hd : w.cell? ⟨bd, 0, none⟩ = some (.pointer (some ⟨pd, 0, none⟩))) (hp : w.cell? ⟨bp, 0, none⟩ = some (.int .i64 (p : Int))) :
  Calls Tryz.prog 64 #[.pointer (some ⟨bd, 0, none⟩), .pointer (some ⟨bp, 0, none⟩)] w fun e w' => ∃ F er, e = .returned (.tuple #[.agg F, .int .i64 er]) ∧ GetR D p w.heap.size w' F er ∧ Chg Non w w' := by
 have hl1 := lt_of_cell hd
 have hl2 := lt_of_cell hp
 have HG := Lh (fun W (hg : Chg Non w W) => get_all pd ps pm p hp2 D W (h.non hg))
 clear h
 go_enter Tryz.func64, Tryz.ntmps64
 go_wp2_with fail
 obtain ⟨b, hb⟩ : ∃ b, w.heap.size = b := ⟨_, rfl⟩
 refine (HG.out _ ((Chg.refl Non w).alloc _)).mono ?_
 rintro e w1 ⟨F, er, rfl, hr, hg⟩
 have hz := blk_keep (blk_new w (.cells #[.int .i64 0, .int .i64 0, .int .u8 0, .int .u8 0, .int .u8 0, .int .u8 0, .int .u8 0, .int .u8 0, .int .u8 0, .int .u8 0, .int .u8 0, .int .u8 0, .int .u8 0, .int .u8 0, .int .u8 0, .int .u8 0, .int .u8 0, .int .u8 0, .int .u8 0, .int .u8 0, .int .u8 0, .int .u8 0, .int .u8 0, .int .u8 0, .int .u8 0, .int .u8 0, .int .u8 0, .int .u8 0, .int .u8 0, .int .u8 0, .int .u8 0, .int .u8 0, .int .u8 0, .int .u8 0, .int .u32 0, .int .i64 0, .slice none 0 0, .slice none 0 0] 80)) hg (fun e => e)
 have HZ := Lh hz
 have HR := Lh hr
 have HGw := Lh hg
 have HRr := Lh hr.rest
 have hs0 : (w.alloc (.cells #[.int .i64 0, .int .i64 0, .int .u8 0, .int .u8 0, .int .u8 0, .int .u8 0, .int .u8 0, .int .u8 0, .int .u8 0, .int .u8 0, .int .u8 0, .int .u8 0, .int .u8 0, .int .u8 0, .int .u8 0, .int .u8 0, .int .u8 0, .int .u8 0, .int .u8 0, .int .u8 0, .int .u8 0, .int .u8 0, .int .u8 0, .int .u8 0, .int .u8 0, .int .u8 0, .int .u8 0, .int .u8 0, .int .u8 0, .int .u8 0, .int .u8 0, .int .u8 0, .int .u8 0, .int .u8 0, .int .u32 0, .int .i64 0, .slice none 0 0, .slice none 0 0] 80)).heap.size = w.heap.size + 1 := by simp
 have HS0 := Lh hs0
 clear hz hr hg hs0
 go_wp2_with
  (refine sel none (.store 80 (.tmp 2) (.tmp 7)) ?_
   refine wpList_store_rowA rfl 80 (.tmp 2) (.tmp 7) rfl w.heap.size F (by simp [hb]; rfl) rfl 80 _ HZ.out (by rw [HRr.out.1]; exact info_fd) (by rw [HRr.out.1]; rfl) HRr.out.2 ?_
   intro W9 hgW9 hbW9)
 exact bodyPost_ret (res_ct Tryz.results64 _ _ w.heap.size 80 F (0, 0) _ (.int .i64 er) (by simp [hb]) rfl hbW9 Tryz.underlying80 rfl (by rw [HRr.out.1]; exact info_fd)) rfl
  ⟨F, er, rfl, HR.out.keep hgW9 (fun x hx e => by have e : x = w.heap.size := e; rw [HS0.out] at hx; omega) (by rw [HS0.out]; omega), (((Chg.refl Non w).alloc _).then_non HGw.out).then_new hgW9 (fun x e => by have e : x = w.heap.size := e; omega)⟩
end
section
open Go.RowKit Go.Shelf
attribute [local go_sem] Oper.semAt_some
def lastK (D : Dk) : Nat → Option (Int × List UInt8 × Sta)
 | 0 => none
 | k + 1 => kMax (lastK D k) (kAt D k)
theorem lastK_two (D : Dk) : lastK D 2 = kGet D := by
 show kMax (kMax none (kAt D 0)) (kAt D 1) = _
 rfl
theorem res_get4 {tmps : Array Value} {W : World} {b3 b4 : Nat} {T S : Array Value} {n er : Value} (h2 : tmps.getD 2 undef = n) (h3 : tmps.getD 3 undef = .pointer (some ⟨b3, 0, none⟩)) (h4 : tmps.getD 4 undef = .pointer (some ⟨b4, 0, none⟩)) (h5 : tmps.getD 5 undef = er)
  (hT : W.heap[b3]? = some (.cells T 28 (0, 0))) (hTs : T.size = 32) (hS : W.heap[b4]? = some (.cells S 25 (0, 0))) (hSs : S.size = 3) :
  (results Tryz.f10 tmps).run Tryz.prog W = .ok (.tuple #[n, .agg T, .agg S, er]) W := by
 have e2 : tmps[2]?.getD undef = n := by simpa using h2
 have e3 : tmps[3]?.getD undef = .pointer (some ⟨b3, 0, none⟩) := by simpa using h3
 have e4 : tmps[4]?.getD undef = .pointer (some ⟨b4, 0, none⟩) := by simpa using h4
 have e5 : tmps[5]?.getD undef = er := by simpa using h5
 have l1 := run_loadVar_row (P := Tryz.prog) W b3 28 28 T (0, 0) _ hT Tryz.underlying28 rfl (by rw [hTs]; exact info_tag)
 have l2 := run_loadVar_row (P := Tryz.prog) W b4 25 25 S (0, 0) _ hS Tryz.underlying25 rfl (by rw [hSs]; exact info_st)
 simp [results, Tryz.results10, e2, e3, e4, e5, asAddr, l1, l2]
theorem of_ok0 (w : World) : Calls Tryz.prog 30 #[.int .i64 0] w fun e w' => e = .returned (.int .i64 0) ∧ w = w' := of_ok 0 w
theorem of_ok1 (w : World) : Calls Tryz.prog 30 #[.int .i64 1] w fun e w' => e = .returned (.int .i64 1) ∧ w = w' := of_ok 1 w
theorem kGet_pos {D : Dk} {x : Int × List UInt8 × Sta} (h : kGet D = some x) : 1 ≤ x.1 := by
 have key : ∀ a b : Option (Int × List UInt8 × Sta), kMax a b = some x → a = some x ∨ b = some x := fun a b h => by
  unfold kMax at h
  split at h
  ·exact .inr h
  ·exact .inl h
 rcases key _ _ h with h | h
 ·split at h
  ·exact (kAt_num h).2.2.2
  ·cases h
 ·exact (kAt_num h).2.2.2
theorem sub_range {w : World} {g o : Nat} {F : Array Value} {t : TypeId} {l : List Value} (h : w.heap[g]? = some (.cells F t (0, 0))) (hl : ∀ j v, l[j]? = some v → F[o + j]? = some v) : w.rangeAt g o l := fun j v hv => blk_cell h (o + j) (hl j v hv)
theorem fd_tag (n sz : Int) (hash : List UInt8) (sum : Nat) (fr : Int) (vb vd : Value) (h : hash.length = 32) (j : Nat) (v : Value) (hj : (tagA hash).toList[j]? = some v) : (fdA (tiA n sz hash sum) fr vb vd)[2 + j]? = some v := by
 rw [Array.getElem?_toList] at hj
 have hlt : j < 32 := by have := (Array.getElem?_eq_some_iff.1 hj).1; rw [tagA_size _ h] at this; exact this
 unfold fdA
 rw [Array.getElem?_append_left (by rw [tiA_size _ _ _ h]; omega), tiA_tag n sz sum h j hlt]
 exact hj
theorem fd_sta (n sz : Int) (hash : List UInt8) (sum : Nat) (fr : Int) (vb vd : Value) (h : hash.length = 32) (j : Nat) (v : Value) (hj : (#[.int .i64 fr, vb, vd] : Array Value).toList[j]? = some v) : (fdA (tiA n sz hash sum) fr vb vd)[35 + j]? = some v := by
 rw [Array.getElem?_toList] at hj
 unfold fdA
 rw [Array.getElem?_append_right (by rw [tiA_size _ _ _ h]; omega), tiA_size _ _ _ h, show 35 + j - 35 = j by omega]
 exact hj
theorem ix0 : ∀ (a b : Value) (w : World), (Instr.index 85 (.agg #[a, b]) (.int .i64 0)).run Tryz.prog w = .ok a w := fun _ _ _ => by kernel_rfl
theorem ix1 : ∀ (a b : Value) (w : World), (Instr.index 85 (.agg #[a, b]) (.int .i64 1)).run Tryz.prog w = .ok b w := fun _ _ _ => by kernel_rfl
structure GeS (D : Dk) (w : World) (pd bt bs bl p0 d0 p1 d1 k : Nat) (wr : World) : Prop where
 t : wr.heap[bt]? = some (.cells (tagA zTag) 28 (0, 0))
 s : wr.heap[bs]? = some (.cells zStC 25 (0, 0))
 l : ∃ F, wr.heap[bl]? = some (.cells F 80 (0, 0)) ∧ FdIs (d1 + 1) wr F (lastK D k)
 c0 : wr.cell? ⟨p0, 0, none⟩ = some (.int .i64 0)
 c1 : wr.cell? ⟨p1, 0, none⟩ = some (.int .i64 1)
 e0 : wr.cell? ⟨d0, 0, none⟩ = some (.pointer (some ⟨pd, 0, none⟩))
 e1 : wr.cell? ⟨d1, 0, none⟩ = some (.pointer (some ⟨pd, 0, none⟩))
 g : Chg Non w wr
 u : 0 < k → D.up = true
 n : ∀ j, j < k → 226 + 96 * j < D.sec.length
def GetF (D : Dk) (w w' : World) (e : Ending) : Prop :=
 (D.up = false ∧ e = .returned (.tuple #[.int .i64 0, .agg (tagA zTag), .agg zStC, .int .i64 60])) ∨
 (D.up = true ∧ D.sec.length ≤ 322 ∧ e = .returned (.tuple #[.int .i64 0, .agg (tagA zTag), .agg zStC, .int .i64 61])) ∨
 (D.up = true ∧ 322 < D.sec.length ∧ kGet D = none ∧ e = .returned (.tuple #[.int .i64 0, .agg (tagA zTag), .agg zStC, .int .i64 250])) ∨
 (D.up = true ∧ 322 < D.sec.length ∧ ∃ n hash s vb vd, kGet D = some (n, hash, s) ∧ hash.length = 32 ∧ e = .returned (.tuple #[.int .i64 n, .agg (tagA hash), .agg #[.int .i64 s.frames, vb, vd], .int .i64 0]) ∧ StaO w.heap.size w' s vb vd)
theorem Get_in (pd ps pm : Nat) (D : Dk) (w : World) (h : IsD w pd ps pm D) (h0 : 0 < D.sec.length) :
  Calls Tryz.prog 10 #[.pointer (some ⟨pd, 0, none⟩)] w fun e w' => GetF D w w' e ∧ Chg Non w w' := by
 have HD := Lh h
 have hix0 := ix0
 have hix1 := ix1
 have HL := Lh (fun W (hg : Chg Non w W) => Len_ok pd ps pm D W (h.non hg))
 have hz : ((D.sec.length : Int) == 0) = false := by rw [beq_eq_false_iff_ne]; omega
 clear h
 go_enter Tryz.func10, Tryz.ntmps10
 go_wp2_with fail
 refine (HL.out _ (((Chg.refl Non w).alloc _).alloc _)).mono ?_
 rintro e u ⟨rfl, rfl⟩
 go_wp2_with fail
 refine (of_ok0 _).mono ?_
 rintro e u ⟨rfl, rfl⟩
 go_wp2_with fail
 refine (placeOf_ok pd 0 _).mono ?_
 rintro e u ⟨rfl, rfl⟩
 go_wp2_with fail
 refine (of_ok1 _).mono ?_
 rintro e u ⟨rfl, rfl⟩
 go_wp2_with fail
 refine (placeOf_ok pd 1 _).mono ?_
 rintro e u ⟨rfl, rfl⟩
 go_wp2_with fail
 obtain ⟨bt, hbt⟩ : ∃ b, w.heap.size = b := ⟨_, rfl⟩
 obtain ⟨bs, hbs⟩ : ∃ b, bt + 1 = b := ⟨_, rfl⟩
 obtain ⟨bl, hbl⟩ : ∃ b, bs + 1 = b := ⟨_, rfl⟩
 obtain ⟨p0, hp0⟩ : ∃ b, bl + 1 = b := ⟨_, rfl⟩
 obtain ⟨d0, hd0⟩ : ∃ b, p0 + 1 = b := ⟨_, rfl⟩
 obtain ⟨p1, hp1⟩ : ∃ b, d0 + 1 = b := ⟨_, rfl⟩
 obtain ⟨d1, hd1⟩ : ∃ b, p1 + 1 = b := ⟨_, rfl⟩
 have HV0 : Hid (GeS D w pd bt bs bl p0 d0 p1 d1 0 (((((((w.alloc (.cells #[.int .u8 0, .int .u8 0, .int .u8 0, .int .u8 0, .int .u8 0, .int .u8 0, .int .u8 0, .int .u8 0, .int .u8 0, .int .u8 0, .int .u8 0, .int .u8 0, .int .u8 0, .int .u8 0, .int .u8 0, .int .u8 0, .int .u8 0, .int .u8 0, .int .u8 0, .int .u8 0, .int .u8 0, .int .u8 0, .int .u8 0, .int .u8 0, .int .u8 0, .int .u8 0, .int .u8 0, .int .u8 0, .int .u8 0, .int .u8 0, .int .u8 0, .int .u8 0] 28)).alloc (.cells zStC 25)).alloc (.cells #[.int .i64 0, .int .i64 0, .int .u8 0, .int .u8 0, .int .u8 0, .int .u8 0, .int .u8 0, .int .u8 0, .int .u8 0, .int .u8 0, .int .u8 0, .int .u8 0, .int .u8 0, .int .u8 0, .int .u8 0, .int .u8 0, .int .u8 0, .int .u8 0, .int .u8 0, .int .u8 0, .int .u8 0, .int .u8 0, .int .u8 0, .int .u8 0, .int .u8 0, .int .u8 0, .int .u8 0, .int .u8 0, .int .u8 0, .int .u8 0, .int .u8 0, .int .u8 0, .int .u8 0, .int .u8 0, .int .u32 0, .int .i64 0, .slice none 0 0, .slice none 0 0] 80)).alloc (.cells #[.int .i64 0] 82)).alloc (.cells #[.pointer (some ⟨pd, 0, none⟩)] 33)).alloc (.cells #[.int .i64 1] 82)).alloc (.cells #[.pointer (some ⟨pd, 0, none⟩)] 33))) := Lh (by
   have z1 : (#[.int .i64 0, .int .i64 0, .int .u8 0, .int .u8 0, .int .u8 0, .int .u8 0, .int .u8 0, .int .u8 0, .int .u8 0, .int .u8 0, .int .u8 0, .int .u8 0, .int .u8 0, .int .u8 0, .int .u8 0, .int .u8 0, .int .u8 0, .int .u8 0, .int .u8 0, .int .u8 0, .int .u8 0, .int .u8 0, .int .u8 0, .int .u8 0, .int .u8 0, .int .u8 0, .int .u8 0, .int .u8 0, .int .u8 0, .int .u8 0, .int .u8 0, .int .u8 0, .int .u8 0, .int .u8 0, .int .u32 0, .int .i64 0, .slice none 0 0, .slice none 0 0] : Array Value) = zFd := by kernel_rfl
   have z2 : (#[.int .u8 0, .int .u8 0, .int .u8 0, .int .u8 0, .int .u8 0, .int .u8 0, .int .u8 0, .int .u8 0, .int .u8 0, .int .u8 0, .int .u8 0, .int .u8 0, .int .u8 0, .int .u8 0, .int .u8 0, .int .u8 0, .int .u8 0, .int .u8 0, .int .u8 0, .int .u8 0, .int .u8 0, .int .u8 0, .int .u8 0, .int .u8 0, .int .u8 0, .int .u8 0, .int .u8 0, .int .u8 0, .int .u8 0, .int .u8 0, .int .u8 0, .int .u8 0] : Array Value) = tagA zTag := by kernel_rfl
   rw [z1, z2]
   have n0 := fun (W : World) o => blk_new W o
   obtain ⟨w1, e1⟩ : ∃ x, w.alloc (.cells (tagA zTag) 28) = x := ⟨_, rfl⟩
   obtain ⟨w2, e2⟩ : ∃ x, w1.alloc (.cells zStC 25) = x := ⟨_, rfl⟩
   obtain ⟨w3, e3⟩ : ∃ x, w2.alloc (.cells zFd 80) = x := ⟨_, rfl⟩
   obtain ⟨w4, e4⟩ : ∃ x, w3.alloc (.cells #[.int .i64 0] 82) = x := ⟨_, rfl⟩
   obtain ⟨w5, e5⟩ : ∃ x, w4.alloc (.cells #[.pointer (some ⟨pd, 0, none⟩)] 33) = x := ⟨_, rfl⟩
   obtain ⟨w6, e6⟩ : ∃ x, w5.alloc (.cells #[.int .i64 1] 82) = x := ⟨_, rfl⟩
   obtain ⟨w7, e7⟩ : ∃ x, w6.alloc (.cells #[.pointer (some ⟨pd, 0, none⟩)] 33) = x := ⟨_, rfl⟩
   rw [e1, e2, e3, e4, e5, e6, e7]
   have s1 : w1.heap.size = bs := by rw [← e1]; simp; omega
   have s2 : w2.heap.size = bl := by rw [← e2]; simp; omega
   have s3 : w3.heap.size = p0 := by rw [← e3]; simp; omega
   have s4 : w4.heap.size = d0 := by rw [← e4]; simp; omega
   have s5 : w5.heap.size = p1 := by rw [← e5]; simp; omega
   have s6 : w6.heap.size = d1 := by rw [← e6]; simp; omega
   have g6 : Chg Non w6 w7 := by rw [← e7]; exact (Chg.refl Non w6).alloc _
   have g5 : Chg Non w5 w7 := Chg.then_non (by rw [← e6]; exact (Chg.refl Non w5).alloc _) g6
   have g4 : Chg Non w4 w7 := Chg.then_non (by rw [← e5]; exact (Chg.refl Non w4).alloc _) g5
   have g3 : Chg Non w3 w7 := Chg.then_non (by rw [← e4]; exact (Chg.refl Non w3).alloc _) g4
   have g2 : Chg Non w2 w7 := Chg.then_non (by rw [← e3]; exact (Chg.refl Non w2).alloc _) g3
   have g1 : Chg Non w1 w7 := Chg.then_non (by rw [← e2]; exact (Chg.refl Non w1).alloc _) g2
   have g0 : Chg Non w w7 := Chg.then_non (by rw [← e1]; exact (Chg.refl Non w).alloc _) g1
   have k1 := n0 w (.cells (tagA zTag) 28)
   rw [e1, hbt] at k1
   have k2 := n0 w1 (.cells zStC 25)
   rw [e2, s1] at k2
   have k3 := n0 w2 (.cells zFd 80)
   rw [e3, s2] at k3
   have k4 := n0 w3 (.cells #[.int .i64 0] 82)
   rw [e4, s3] at k4
   have k5 := n0 w4 (.cells #[.pointer (some ⟨pd, 0, none⟩)] 33)
   rw [e5, s4] at k5
   have k6 := n0 w5 (.cells #[.int .i64 1] 82)
   rw [e6, s5] at k6
   have k7 := n0 w6 (.cells #[.pointer (some ⟨pd, 0, none⟩)] 33)
   rw [e7, s6] at k7
   exact ⟨blk_keep k1 g1 (fun e => e), blk_keep k2 g2 (fun e => e), ⟨zFd, blk_keep k3 g3 (fun e => e), FdIs.zero _ _⟩, blk_cell (blk_keep k4 g4 (fun e => e)) 0 rfl, blk_cell (blk_keep k6 g6 (fun e => e)) 0 rfl, blk_cell (blk_keep k5 g5 (fun e => e)) 0 rfl, blk_cell k7 0 rfl, g0, fun h => absurd h (by omega), fun j h => absurd h (by omega)⟩)
 rw [show zStC = #[.int .i64 0, .slice none 0 0, .slice none 0 0] from rfl] at HV0
 obtain ⟨V, hV⟩ : ∃ V, ((((((w.alloc (.cells #[.int .u8 0, .int .u8 0, .int .u8 0, .int .u8 0, .int .u8 0, .int .u8 0, .int .u8 0, .int .u8 0, .int .u8 0, .int .u8 0, .int .u8 0, .int .u8 0, .int .u8 0, .int .u8 0, .int .u8 0, .int .u8 0, .int .u8 0, .int .u8 0, .int .u8 0, .int .u8 0, .int .u8 0, .int .u8 0, .int .u8 0, .int .u8 0, .int .u8 0, .int .u8 0, .int .u8 0, .int .u8 0, .int .u8 0, .int .u8 0, .int .u8 0, .int .u8 0] 28)).alloc (.cells #[.int .i64 0, .slice none 0 0, .slice none 0 0] 25)).alloc (.cells #[.int .i64 0, .int .i64 0, .int .u8 0, .int .u8 0, .int .u8 0, .int .u8 0, .int .u8 0, .int .u8 0, .int .u8 0, .int .u8 0, .int .u8 0, .int .u8 0, .int .u8 0, .int .u8 0, .int .u8 0, .int .u8 0, .int .u8 0, .int .u8 0, .int .u8 0, .int .u8 0, .int .u8 0, .int .u8 0, .int .u8 0, .int .u8 0, .int .u8 0, .int .u8 0, .int .u8 0, .int .u8 0, .int .u8 0, .int .u8 0, .int .u8 0, .int .u8 0, .int .u8 0, .int .u8 0, .int .u32 0, .int .i64 0, .slice none 0 0, .slice none 0 0] 80)).alloc (.cells #[.int .i64 0] 82)).alloc (.cells #[.pointer (some ⟨pd, 0, none⟩)] 33)).alloc (.cells #[.int .i64 1] 82)).alloc (.cells #[.pointer (some ⟨pd, 0, none⟩)] 33) = V := ⟨_, rfl⟩
 rw [hV] at HV0 ⊢
 clear hV HL hz
 have HBs := Lh (And.intro hbt (And.intro hbs (And.intro hbl (And.intro hp0 (And.intro hd0 (And.intro hp1 hd1))))))
 rw [hbt, hbs, hbl, hp0, hd0, hp1, hd1]
 go_loopw [23] (fun iv wr => ∃ k : Nat, k ≤ 2 ∧ iv = .int .i64 k ∧ Hid (GeS D w pd bt bs bl p0 d0 p1 d1 k wr)) (fun iv _ => 2 - (intOf iv).toNat)
 case atStart => exact ⟨0, Nat.zero_le _, rfl, HV0⟩
 case round =>
  clear HV0
  obtain ⟨k, hk, rfl, HGe⟩ := hrel
  have hk3 : k = 0 ∨ k = 1 ∨ k = 2 := by omega
  rcases hk3 with rfl | rfl | rfl
  ·have hc := HGe.out.c0
   have he := HGe.out.e0
   have HC := Lh (of1_ok pd ps pm 0 d0 p0 (by omega) D wr (HD.out.non HGe.out.g) he hc)
   clear hc he
   go_wp2_with fail
   refine HC.out.mono ?_
   rintro e u ⟨F, er, rfl, hr, hg⟩
   have HR := Lh hr
   have HRr := Lh hr.rest
   have HGu := Lh hg
   obtain ⟨b9, hb9⟩ : ∃ b, u.heap.size = b := ⟨_, rfl⟩
   have hz9 : ∀ o, (u.alloc o).heap[b9]? = some o := fun o => by rw [← hb9]; exact heap_alloc_new _ _
   have hlr : d1 < wr.heap.size := lt_of_cell HGe.out.e1
   have hlu : d1 < u.heap.size := Nat.lt_of_lt_of_le hlr hg.size
   have HLu := Lh hlu
   have HLr := Lh hlr
   clear hlr hr hg hlu HC
   have hFil : Hid (∃ FL, wr.heap[bl]? = some (.cells FL 80 (0, 0)) ∧ FdIs (d1 + 1) wr FL (lastK D 0)) := Lh HGe.out.l
   obtain ⟨FL, hFL, hFd⟩ := hFil.out
   have HFL := Lh (And.intro hFL hFd)
   clear hFil hFL hFd
   by_cases hz0 : er = 0
   case neg =>
    have hzd : (er != 0) = true := by simpa using hz0
    have HRes : Hid (GetF D w w (.returned (.tuple #[.int .i64 0, .agg (tagA zTag), .agg zStC, .int .i64 er]))) := Lh (by
      rcases HR.out with ⟨h1, rfl, _⟩ | ⟨h1, h2, rfl, _⟩ | ⟨h1, h2, rfl, _⟩
      · exact .inl ⟨h1, rfl⟩
      · exact .inr (.inl ⟨h1, by omega, rfl⟩)
      · exact absurd rfl hz0)
    clear hz0
    have HZ9 : ∀ o W, Chg (fun k => k = b9) (u.alloc o) W → Chg Non wr W := fun o W hW => (HGu.out.alloc o).then_new hW (fun x e => by have e : x = b9 := e; have := HGu.out.size; omega)
    go_wp2_with (first
      | (refine sel none (.store 80 (.tmp 9) (.tmp 29)) ?_
         refine wpList_store_rowA rfl 80 (.tmp 9) (.tmp 29) rfl b9 F rfl rfl 80 _ (hz9 _) (by rw [HRr.out.1]; exact info_fd) (by rw [HRr.out.1]; rfl) HRr.out.2 ?_
         intro W8 hgW8 hbW8
         have HG8 := Lh (HZ9 _ _ hgW8)
         have HZt := Lh (blk_keep HGe.out.t HG8.out (fun e => e))
         have HZs := Lh (blk_keep HGe.out.s HG8.out (fun e => e))
         have HZg := Lh (HGe.out.g.then_non HG8.out)
         clear hgW8 hbW8)
      | (refine sel (some 33) (.build 28 _) ?_; refine wpList_valA rfl (some 33) (.agg (tagA zTag)) rfl (by kernel_rfl) ?_)
      | (refine sel (some 34) (.build 25 _) ?_; refine wpList_valA rfl (some 34) (.agg zStC) rfl (by kernel_rfl) ?_)
      | (refine sel none (.store 28 (.tmp 3) (.tmp 33)) ?_
         refine wpList_store_rowA rfl 28 (.tmp 3) (.tmp 33) rfl bt (tagA zTag) rfl rfl 28 _ HZt.out (by rw [tagA_size _ zTag_len]; exact info_tag) rfl (tagA_one _) ?_
         intro Wa hga hba
         have hsa := blk_keep HZs.out hga (fun e => by have e : bs = bt := e; have := HBs.out; omega))
      | (refine sel none (.store 25 (.tmp 4) (.tmp 34)) ?_
         refine wpList_store_rowA rfl 25 (.tmp 4) (.tmp 34) rfl bs zStC rfl rfl 25 _ hsa info_st rfl (by kernel_rfl) ?_
         intro Wb hgb hbb))
    have hbt := blk_keep hba hgb (fun e => by have e : bt = bs := e; have := HBs.out; omega)
    have hGb : Chg Non w Wb := (HZg.out.then_new hga (fun x e => by have e : x = bt := e; have := HBs.out; omega)).then_new hgb (fun x e => by have e : x = bs := e; have := HBs.out; omega)
    exact bodyPost_ret (res_get4 (n := .int .i64 0) (er := .int .i64 er) (by kernel_rfl) (by kernel_rfl) (by kernel_rfl) (by kernel_rfl) hbt (tagA_size _ zTag_len) hbb rfl) rfl ⟨HRes.out.imp id (fun h => h.imp id (fun h => h.imp id (fun ⟨h1, h2, n, hash, s, vb, vd, h3, h4, h5, _⟩ => by injection h5 with h5; injection h5 with h5; simp at h5; exact absurd h5.2.2.2 (by simpa using hzd)))), hGb⟩
   subst hz0
   obtain ⟨hup, hlt, hfd⟩ : D.up = true ∧ 226 + 96 * 0 < D.sec.length ∧ FdIs wr.heap.size u F (kAt D 0) := by
    rcases HR.out with ⟨h1, h2, _⟩ | ⟨h1, h2, h3, _⟩ | ⟨h1, h2, _, h3⟩
    ·cases h2
    ·cases h3
    ·exact ⟨h1, h2, h3⟩
   have HFd := Lh (And.intro hup (And.intro hlt hfd))
   clear hup hlt hfd HR
   have c9 : ∀ W : World, W.heap[b9]? = some (.cells F 80 (0, 0)) → W.cell? ⟨b9, 0, none⟩ = some (.int .i64 (kNum (kAt D 0))) := fun W hW => blk_cell hW 0 HFd.out.2.2.num
   have HZ9 : ∀ o W, Chg (fun k => k = b9) (u.alloc o) W → Chg Non u W := fun o W hW => ((Chg.refl Non u).alloc o).then_new hW (fun x e => by have e : x = b9 := e; omega)
   by_cases hgt : kNum (lastK D 0) < kNum (kAt D 0)
   ·have hgd : decide (kNum (kAt D 0) > kNum (lastK D 0)) = true := by rw [decide_eq_true_eq]; omega
    have HK1 : Hid (lastK D (0 + 1) = kAt D 0) := Lh (by show kMax _ _ = _; unfold kMax; rw [if_pos hgt])
    clear hgt
    go_wp2_with (first
      | (refine sel none (.store 80 (.tmp 9) (.tmp 29)) ?_
         refine wpList_store_rowA rfl 80 (.tmp 9) (.tmp 29) rfl b9 F rfl rfl 80 _ (hz9 _) (by rw [HRr.out.1]; exact info_fd) (by rw [HRr.out.1]; rfl) HRr.out.2 ?_
         intro W8 hgW8 hbW8
         have HB8 := Lh hbW8
         have HG8 := Lh (HZ9 _ _ hgW8)
         have cn9 := c9 W8 hbW8
         have HL8 := Lh (blk_keep (blk_keep HFL.out.1 HGu.out (fun e => e)) HG8.out (fun e => e))
         have cnl := blk_cell HL8.out 0 HFL.out.2.num
         clear hgW8 hbW8)
      | (refine sel (some 43) (.load 80 (.tmp 9)) ?_; refine wpList_load_row rfl 80 (.tmp 9) rfl b9 rfl 80 F (0, 0) _ HB8.out Tryz.underlying80 rfl (by rw [HRr.out.1]; exact info_fd) ?_)
      | (refine sel none (.store 80 (.tmp 6) (.tmp 43)) ?_
         refine wpList_store_rowA rfl 80 (.tmp 6) (.tmp 43) rfl bl F rfl rfl 80 _ HL8.out (by rw [HRr.out.1]; exact info_fd) (by rw [HRr.out.1]; exact HFL.out.2.size) HRr.out.2 ?_
         intro W10 hgW10 hbW10))
    have hB := HBs.out
    have hg10 : Chg (fun k => k = bl) wr W10 := (HGu.out.of_non.trans_same HG8.out.of_non).trans_same hgW10
    have hFd2 : FdIs (d1 + 1) W10 F (lastK D (0 + 1)) := by
     rw [HK1.out]
     exact (HFd.out.2.2.keep HG8.out (fun x _ e => e) (show d1 + 1 ≤ wr.heap.size from HLr.out)).keep hgW10 (fun x hx e => by have e : x = bl := e; omega) (Nat.le_refl _)
    have HN : Hid (GeS D w pd bt bs bl p0 d0 p1 d1 (0 + 1) W10) := Lh ⟨blk_keep HGe.out.t hg10 (fun e => by have e : bt = bl := e; omega), blk_keep HGe.out.s hg10 (fun e => by have e : bs = bl := e; omega), ⟨F, hbW10, hFd2⟩,
      hg10.cell_some HGe.out.c0 (fun e => by have e : p0 = bl := e; omega), hg10.cell_some HGe.out.c1 (fun e => by have e : p1 = bl := e; omega), hg10.cell_some HGe.out.e0 (fun e => by have e : d0 = bl := e; omega), hg10.cell_some HGe.out.e1 (fun e => by have e : d1 = bl := e; omega),
      HGe.out.g.then_new hg10 (fun x e => by have e : x = bl := e; omega), fun _ => HFd.out.1, fun j hj => by
        rcases Nat.lt_or_ge j 0 with h | h
        · exact HGe.out.n j h
        · obtain rfl : j = 0 := by omega
          exact HFd.out.2.1⟩
    exact ⟨⟨0 + 1, by omega, by simp, HN⟩, by simp [intOf]⟩
   ·have hgd : decide (kNum (kAt D 0) > kNum (lastK D 0)) = false := by rw [decide_eq_false_iff_not]; omega
    have HK1 : Hid (lastK D (0 + 1) = lastK D 0) := Lh (by show kMax _ _ = _; unfold kMax; rw [if_neg hgt])
    clear hgt
    go_wp2_with
     (refine sel none (.store 80 (.tmp 9) (.tmp 29)) ?_
      refine wpList_store_rowA rfl 80 (.tmp 9) (.tmp 29) rfl b9 F rfl rfl 80 _ (hz9 _) (by rw [HRr.out.1]; exact info_fd) (by rw [HRr.out.1]; rfl) HRr.out.2 ?_
      intro W8 hgW8 hbW8
      have HG8 := Lh (HZ9 _ _ hgW8)
      have cn9 := c9 W8 hbW8
      have HL8 := Lh (blk_keep (blk_keep HFL.out.1 HGu.out (fun e => e)) HG8.out (fun e => e))
      have cnl := blk_cell HL8.out 0 HFL.out.2.num
      clear hgW8 hbW8)
    have hg10 : Chg Non wr W8 := HGu.out.then_non HG8.out
    have HN : Hid (GeS D w pd bt bs bl p0 d0 p1 d1 (0 + 1) W8) := Lh ⟨blk_keep HGe.out.t hg10 (fun e => e), blk_keep HGe.out.s hg10 (fun e => e), ⟨FL, HL8.out, by rw [HK1.out]; exact HFL.out.2.keep hg10 (fun x _ e => e) (Nat.le_refl _)⟩,
      hg10.cell_some HGe.out.c0 (fun e => e), hg10.cell_some HGe.out.c1 (fun e => e), hg10.cell_some HGe.out.e0 (fun e => e), hg10.cell_some HGe.out.e1 (fun e => e),
      HGe.out.g.then_non hg10, fun _ => HFd.out.1, fun j hj => by
        rcases Nat.lt_or_ge j 0 with h | h
        · exact HGe.out.n j h
        · obtain rfl : j = 0 := by omega
          exact HFd.out.2.1⟩
    exact ⟨⟨0 + 1, by omega, by simp, HN⟩, by simp [intOf]⟩
  ·have hc := HGe.out.c1
   have he := HGe.out.e1
   have HC := Lh (of1_ok pd ps pm 1 d1 p1 (by omega) D wr (HD.out.non HGe.out.g) he hc)
   clear hc he
   go_wp2_with fail
   refine HC.out.mono ?_
   rintro e u ⟨F, er, rfl, hr, hg⟩
   have HR := Lh hr
   have HRr := Lh hr.rest
   have HGu := Lh hg
   obtain ⟨b9, hb9⟩ : ∃ b, u.heap.size = b := ⟨_, rfl⟩
   have hz9 : ∀ o, (u.alloc o).heap[b9]? = some o := fun o => by rw [← hb9]; exact heap_alloc_new _ _
   have hlr : d1 < wr.heap.size := lt_of_cell HGe.out.e1
   have hlu : d1 < u.heap.size := Nat.lt_of_lt_of_le hlr hg.size
   have HLu := Lh hlu
   have HLr := Lh hlr
   clear hlr hr hg hlu HC
   have hFil : Hid (∃ FL, wr.heap[bl]? = some (.cells FL 80 (0, 0)) ∧ FdIs (d1 + 1) wr FL (lastK D 1)) := Lh HGe.out.l
   obtain ⟨FL, hFL, hFd⟩ := hFil.out
   have HFL := Lh (And.intro hFL hFd)
   clear hFil hFL hFd
   by_cases hz0 : er = 0
   case neg =>
    have hzd : (er != 0) = true := by simpa using hz0
    have HRes : Hid (GetF D w w (.returned (.tuple #[.int .i64 0, .agg (tagA zTag), .agg zStC, .int .i64 er]))) := Lh (by
      rcases HR.out with ⟨h1, rfl, _⟩ | ⟨h1, h2, rfl, _⟩ | ⟨h1, h2, rfl, _⟩
      · exact .inl ⟨h1, rfl⟩
      · exact .inr (.inl ⟨h1, by omega, rfl⟩)
      · exact absurd rfl hz0)
    clear hz0
    have HZ9 : ∀ o W, Chg (fun k => k = b9) (u.alloc o) W → Chg Non wr W := fun o W hW => (HGu.out.alloc o).then_new hW (fun x e => by have e : x = b9 := e; have := HGu.out.size; omega)
    go_wp2_with (first
      | (refine sel none (.store 80 (.tmp 9) (.tmp 29)) ?_
         refine wpList_store_rowA rfl 80 (.tmp 9) (.tmp 29) rfl b9 F rfl rfl 80 _ (hz9 _) (by rw [HRr.out.1]; exact info_fd) (by rw [HRr.out.1]; rfl) HRr.out.2 ?_
         intro W8 hgW8 hbW8
         have HG8 := Lh (HZ9 _ _ hgW8)
         have HZt := Lh (blk_keep HGe.out.t HG8.out (fun e => e))
         have HZs := Lh (blk_keep HGe.out.s HG8.out (fun e => e))
         have HZg := Lh (HGe.out.g.then_non HG8.out)
         clear hgW8 hbW8)
      | (refine sel (some 33) (.build 28 _) ?_; refine wpList_valA rfl (some 33) (.agg (tagA zTag)) rfl (by kernel_rfl) ?_)
      | (refine sel (some 34) (.build 25 _) ?_; refine wpList_valA rfl (some 34) (.agg zStC) rfl (by kernel_rfl) ?_)
      | (refine sel none (.store 28 (.tmp 3) (.tmp 33)) ?_
         refine wpList_store_rowA rfl 28 (.tmp 3) (.tmp 33) rfl bt (tagA zTag) rfl rfl 28 _ HZt.out (by rw [tagA_size _ zTag_len]; exact info_tag) rfl (tagA_one _) ?_
         intro Wa hga hba
         have hsa := blk_keep HZs.out hga (fun e => by have e : bs = bt := e; have := HBs.out; omega))
      | (refine sel none (.store 25 (.tmp 4) (.tmp 34)) ?_
         refine wpList_store_rowA rfl 25 (.tmp 4) (.tmp 34) rfl bs zStC rfl rfl 25 _ hsa info_st rfl (by kernel_rfl) ?_
         intro Wb hgb hbb))
    have hbt := blk_keep hba hgb (fun e => by have e : bt = bs := e; have := HBs.out; omega)
    have hGb : Chg Non w Wb := (HZg.out.then_new hga (fun x e => by have e : x = bt := e; have := HBs.out; omega)).then_new hgb (fun x e => by have e : x = bs := e; have := HBs.out; omega)
    exact bodyPost_ret (res_get4 (n := .int .i64 0) (er := .int .i64 er) (by kernel_rfl) (by kernel_rfl) (by kernel_rfl) (by kernel_rfl) hbt (tagA_size _ zTag_len) hbb rfl) rfl ⟨HRes.out.imp id (fun h => h.imp id (fun h => h.imp id (fun ⟨h1, h2, n, hash, s, vb, vd, h3, h4, h5, _⟩ => by injection h5 with h5; injection h5 with h5; simp at h5; exact absurd h5.2.2.2 (by simpa using hzd)))), hGb⟩
   subst hz0
   obtain ⟨hup, hlt, hfd⟩ : D.up = true ∧ 226 + 96 * 1 < D.sec.length ∧ FdIs wr.heap.size u F (kAt D 1) := by
    rcases HR.out with ⟨h1, h2, _⟩ | ⟨h1, h2, h3, _⟩ | ⟨h1, h2, _, h3⟩
    ·cases h2
    ·cases h3
    ·exact ⟨h1, h2, h3⟩
   have HFd := Lh (And.intro hup (And.intro hlt hfd))
   clear hup hlt hfd HR
   have c9 : ∀ W : World, W.heap[b9]? = some (.cells F 80 (0, 0)) → W.cell? ⟨b9, 0, none⟩ = some (.int .i64 (kNum (kAt D 1))) := fun W hW => blk_cell hW 0 HFd.out.2.2.num
   have HZ9 : ∀ o W, Chg (fun k => k = b9) (u.alloc o) W → Chg Non u W := fun o W hW => ((Chg.refl Non u).alloc o).then_new hW (fun x e => by have e : x = b9 := e; omega)
   by_cases hgt : kNum (lastK D 1) < kNum (kAt D 1)
   ·have hgd : decide (kNum (kAt D 1) > kNum (lastK D 1)) = true := by rw [decide_eq_true_eq]; omega
    have HK1 : Hid (lastK D (1 + 1) = kAt D 1) := Lh (by show kMax _ _ = _; unfold kMax; rw [if_pos hgt])
    clear hgt
    go_wp2_with (first
      | (refine sel none (.store 80 (.tmp 9) (.tmp 29)) ?_
         refine wpList_store_rowA rfl 80 (.tmp 9) (.tmp 29) rfl b9 F rfl rfl 80 _ (hz9 _) (by rw [HRr.out.1]; exact info_fd) (by rw [HRr.out.1]; rfl) HRr.out.2 ?_
         intro W8 hgW8 hbW8
         have HB8 := Lh hbW8
         have HG8 := Lh (HZ9 _ _ hgW8)
         have cn9 := c9 W8 hbW8
         have HL8 := Lh (blk_keep (blk_keep HFL.out.1 HGu.out (fun e => e)) HG8.out (fun e => e))
         have cnl := blk_cell HL8.out 0 HFL.out.2.num
         clear hgW8 hbW8)
      | (refine sel (some 43) (.load 80 (.tmp 9)) ?_; refine wpList_load_row rfl 80 (.tmp 9) rfl b9 rfl 80 F (0, 0) _ HB8.out Tryz.underlying80 rfl (by rw [HRr.out.1]; exact info_fd) ?_)
      | (refine sel none (.store 80 (.tmp 6) (.tmp 43)) ?_
         refine wpList_store_rowA rfl 80 (.tmp 6) (.tmp 43) rfl bl F rfl rfl 80 _ HL8.out (by rw [HRr.out.1]; exact info_fd) (by rw [HRr.out.1]; exact HFL.out.2.size) HRr.out.2 ?_
         intro W10 hgW10 hbW10))
    have hB := HBs.out
    have hg10 : Chg (fun k => k = bl) wr W10 := (HGu.out.of_non.trans_same HG8.out.of_non).trans_same hgW10
    have hFd2 : FdIs (d1 + 1) W10 F (lastK D (1 + 1)) := by
     rw [HK1.out]
     exact (HFd.out.2.2.keep HG8.out (fun x _ e => e) (show d1 + 1 ≤ wr.heap.size from HLr.out)).keep hgW10 (fun x hx e => by have e : x = bl := e; omega) (Nat.le_refl _)
    have HN : Hid (GeS D w pd bt bs bl p0 d0 p1 d1 (1 + 1) W10) := Lh ⟨blk_keep HGe.out.t hg10 (fun e => by have e : bt = bl := e; omega), blk_keep HGe.out.s hg10 (fun e => by have e : bs = bl := e; omega), ⟨F, hbW10, hFd2⟩,
      hg10.cell_some HGe.out.c0 (fun e => by have e : p0 = bl := e; omega), hg10.cell_some HGe.out.c1 (fun e => by have e : p1 = bl := e; omega), hg10.cell_some HGe.out.e0 (fun e => by have e : d0 = bl := e; omega), hg10.cell_some HGe.out.e1 (fun e => by have e : d1 = bl := e; omega),
      HGe.out.g.then_new hg10 (fun x e => by have e : x = bl := e; omega), fun _ => HFd.out.1, fun j hj => by
        rcases Nat.lt_or_ge j 1 with h | h
        · exact HGe.out.n j h
        · obtain rfl : j = 1 := by omega
          exact HFd.out.2.1⟩
    exact ⟨⟨1 + 1, by omega, by simp, HN⟩, by simp [intOf]⟩
   ·have hgd : decide (kNum (kAt D 1) > kNum (lastK D 1)) = false := by rw [decide_eq_false_iff_not]; omega
    have HK1 : Hid (lastK D (1 + 1) = lastK D 1) := Lh (by show kMax _ _ = _; unfold kMax; rw [if_neg hgt])
    clear hgt
    go_wp2_with
     (refine sel none (.store 80 (.tmp 9) (.tmp 29)) ?_
      refine wpList_store_rowA rfl 80 (.tmp 9) (.tmp 29) rfl b9 F rfl rfl 80 _ (hz9 _) (by rw [HRr.out.1]; exact info_fd) (by rw [HRr.out.1]; rfl) HRr.out.2 ?_
      intro W8 hgW8 hbW8
      have HG8 := Lh (HZ9 _ _ hgW8)
      have cn9 := c9 W8 hbW8
      have HL8 := Lh (blk_keep (blk_keep HFL.out.1 HGu.out (fun e => e)) HG8.out (fun e => e))
      have cnl := blk_cell HL8.out 0 HFL.out.2.num
      clear hgW8 hbW8)
    have hg10 : Chg Non wr W8 := HGu.out.then_non HG8.out
    have HN : Hid (GeS D w pd bt bs bl p0 d0 p1 d1 (1 + 1) W8) := Lh ⟨blk_keep HGe.out.t hg10 (fun e => e), blk_keep HGe.out.s hg10 (fun e => e), ⟨FL, HL8.out, by rw [HK1.out]; exact HFL.out.2.keep hg10 (fun x _ e => e) (Nat.le_refl _)⟩,
      hg10.cell_some HGe.out.c0 (fun e => e), hg10.cell_some HGe.out.c1 (fun e => e), hg10.cell_some HGe.out.e0 (fun e => e), hg10.cell_some HGe.out.e1 (fun e => e),
      HGe.out.g.then_non hg10, fun _ => HFd.out.1, fun j hj => by
        rcases Nat.lt_or_ge j 1 with h | h
        · exact HGe.out.n j h
        · obtain rfl : j = 1 := by omega
          exact HFd.out.2.1⟩
    exact ⟨⟨1 + 1, by omega, by simp, HN⟩, by simp [intOf]⟩
  ·obtain ⟨FL, hFL, hFd⟩ := HGe.out.l
   rw [lastK_two] at hFd
   have HFL := Lh hFL
   have hlen : 322 < D.sec.length := by have := HGe.out.n 1 (by omega); omega
   have HN := Lh (And.intro (HGe.out.u (by omega)) hlen)
   have HZt := Lh HGe.out.t
   have HZs := Lh HGe.out.s
   have HZg := Lh HGe.out.g
   have cnl := blk_cell hFL 0 hFd.num
   have hbl0 := blk_lt hFL
   clear hFL hlen
   cases hkg : kGet D with
   | none =>
    rw [hkg] at cnl
    replace cnl : wr.cell? ⟨bl, 0, none⟩ = some (.int .i64 0) := cnl
    clear hFd
    have HKg := Lh hkg
    clear hkg
    go_wp2_with (first
      | (refine sel (some 49) (.build 28 _) ?_; refine wpList_valA rfl (some 49) (.agg (tagA zTag)) rfl (by kernel_rfl) ?_)
      | (refine sel (some 50) (.build 25 _) ?_; refine wpList_valA rfl (some 50) (.agg zStC) rfl (by kernel_rfl) ?_)
      | (refine sel none (.store 28 (.tmp 3) (.tmp 49)) ?_
         refine wpList_store_rowA rfl 28 (.tmp 3) (.tmp 49) rfl bt (tagA zTag) rfl rfl 28 _ HZt.out (by rw [tagA_size _ zTag_len]; exact info_tag) rfl (tagA_one _) ?_
         intro Wa hga hba
         have hsa := blk_keep HZs.out hga (fun e => by have e : bs = bt := e; have := HBs.out; omega))
      | (refine sel none (.store 25 (.tmp 4) (.tmp 50)) ?_
         refine wpList_store_rowA rfl 25 (.tmp 4) (.tmp 50) rfl bs zStC rfl rfl 25 _ hsa info_st rfl (by kernel_rfl) ?_
         intro Wb hgb hbb))
    have hbt := blk_keep hba hgb (fun e => by have e : bt = bs := e; have := HBs.out; omega)
    have hGb : Chg Non w Wb := (HZg.out.then_new hga (fun x e => by have e : x = bt := e; have := HBs.out; omega)).then_new hgb (fun x e => by have e : x = bs := e; have := HBs.out; omega)
    exact bodyPost_ret (res_get4 (n := .int .i64 0) (er := .int .i64 250) (by kernel_rfl) (by kernel_rfl) (by kernel_rfl) (by kernel_rfl) hbt (tagA_size _ zTag_len) hbb rfl) rfl ⟨.inr (.inr (.inl ⟨HN.out.1, HN.out.2, HKg.out, rfl⟩)), hGb⟩
   | some x =>
    obtain ⟨n, hash, s⟩ := x
    have hn1 := kGet_pos hkg
    simp only at hn1
    have hnd : (n == 0) = false := by rw [beq_eq_false_iff_ne]; omega
    have hnd2 : ¬ n = 0 := by omega
    have hnd3 : decide (n = 0) = false := by rw [decide_eq_false_iff_not]; omega
    have HKg := Lh hkg
    rw [hkg] at cnl hFd
    replace cnl : wr.cell? ⟨bl, 0, none⟩ = some (.int .i64 n) := cnl
    obtain ⟨sz, sum, vb, vd, hh, hFe, hst⟩ : ∃ sz sum vb vd, hash.length = 32 ∧ FL = fdA (tiA n sz hash sum) s.frames vb vd ∧ StaO (d1 + 1) wr s vb vd := by
     rcases hFd.is with ⟨h, _⟩ | ⟨n', hash', s', sz, sum, vb, vd, h1, h2, h3, h4⟩
     ·cases h
     ·injection h1 with h1
      injection h1 with h1 h5
      injection h5 with h5 h6
      subst h1 h5 h6
      exact ⟨sz, sum, vb, vd, h2, h3, h4⟩
    have HSt := Lh hst
    obtain ⟨A2, c2, rfl, _⟩ := hst.ps.rd
    obtain ⟨A3, c3, rfl, _⟩ := hst.qs.rd
    have HHh := Lh hh
    rw [hFe] at HFL
    clear hkg hn1 hFd hFe hst hh
    go_wp2_with fail
    obtain ⟨V2, hV2⟩ : ∃ V2, V2 = wr.drew := ⟨_, rfl⟩
    have hw2 : Chg Non wr V2 := by rw [hV2]; exact (Chg.refl Non wr).drew
    have hF2 := blk_keep HFL.out hw2 (fun e => e)
    have HRt := Lh (sub_range hF2 (fd_tag n sz hash sum s.frames _ _ HHh.out))
    have HRs := Lh (sub_range hF2 (fd_sta n sz hash sum s.frames _ _ HHh.out))
    have c0 := blk_cell hF2 0 (v := .int .i64 n) rfl
    have HT2 := Lh (blk_keep HZt.out hw2 (fun e => e))
    have HS2 := Lh (blk_keep HZs.out hw2 (fun e => e))
    have HG2 := Lh (HZg.out.then_non hw2)
    have HSt2 := Lh (HSt.out.keepB hw2 (fun x _ e => e) (Nat.le_refl _))
    have hnt : bl ≠ bt ∧ bl ≠ bs := by have := HBs.out; omega
    clear hF2 hw2 HZt HZs HZg HSt HFL cnl
    refine wp_region_held_drew (S := Chg (fun k => k = bt ∨ k = bs) V2) (by kernel_rfl) (by rw [hV2]; exact Chg.refl _ _) (fun hHeld => ?_)
    clear hHeld
    rw [← hV2]
    clear hV2
    have HS : Hid (Chg (fun k => k = bt ∨ k = bs) V2 V2) := Lh (Chg.refl _ _)
    refine hp 0 51 (.pointer (some ⟨bl, 0, none⟩)) rfl HS.out ?_
    refine hp 1 52 (.pointer (some ⟨bl, 0, none⟩)) rfl HS.out ?_
    refine hp 2 53 (.int .i64 n) rfl HS.out ?_ (he := (fun W hW => by have hc := hW.cell_some c0 (fun e => by rcases e with e | e; exact hnt.1 e; exact hnt.2 e); go_simp))
    refine hp 3 54 (.pointer (some ⟨bl, 0, none⟩)) rfl HS.out ?_
    refine hp 4 55 (.pointer (some ⟨bl, 2, none⟩)) rfl HS.out ?_
    refine h_load 5 (some 56) 28 (.tmp 55) bl 2 (tagA hash) _ rfl (by kernel_rfl) (by kernel_rfl) (by kernel_rfl) (by kernel_rfl) (by kernel_rfl) (fun _ _ _ h => h) (by kernel_rfl) (by kernel_rfl) (fun W hW => range_keepS HRt.out hW (fun e => by rcases e with e | e; exact hnt.1 e; exact hnt.2 e)) Tryz.underlying28 rfl (by rw [tagA_size _ HHh.out]; exact info_tag) HS.out ?_
    simp only [Act.put, sA, sB, sC]
    refine hp 6 57 (.pointer (some ⟨bl, 35, none⟩)) rfl HS.out ?_
    refine h_load 7 (some 58) 25 (.tmp 57) bl 35 #[.int .i64 s.frames, .slice A2 s.parts.length c2, .slice A3 s.queues.length c3] _ rfl (by kernel_rfl) (by kernel_rfl) (by kernel_rfl) (by kernel_rfl) (by kernel_rfl) (fun _ _ _ h => h) (by kernel_rfl) (by kernel_rfl) (fun W hW => range_keepS HRs.out hW (fun e => by rcases e with e | e; exact hnt.1 e; exact hnt.2 e)) Tryz.underlying25 rfl info_st HS.out ?_
    simp only [Act.put, sA, sB, sC]
    refine hp 8 2 (.int .i64 n) rfl HS.out ?_
    refine h_store 9 28 (.tmp 3) (.tmp 56) bt (tagA hash) (by kernel_rfl) rfl (by kernel_rfl) rfl rfl rfl rfl 28 ⟨_, HT2.out, by rw [tagA_size _ HHh.out, tagA_size _ zTag_len]⟩ (by rw [tagA_size _ HHh.out]; exact info_tag) (tagA_one _) (fun W hg hb => hg.mono (fun k e => .inl e)) ?_
    intro Wa hga hba
    have hsa := blk_keep HS2.out hga (fun e => by have e : bs = bt := e; have := HBs.out; omega)
    refine h_store 10 25 (.tmp 4) (.tmp 58) bs #[.int .i64 s.frames, .slice A2 s.parts.length c2, .slice A3 s.queues.length c3] (by kernel_rfl) rfl (by kernel_rfl) rfl rfl rfl rfl 25 ⟨_, hsa, rfl⟩ info_st (by kernel_rfl) (fun W hg hb => (hga.mono (fun k e => .inl e)).trans_same (hg.mono (fun k e => .inr e))) ?_
    intro Wb hgb hbb
    have HS9 : Hid (Chg (fun k => k = bt ∨ k = bs) V2 Wb) := Lh ((hga.mono (fun k e => .inl e)).trans_same (hgb.mono (fun k e => .inr e)))
    refine hp 11 5 (.int .i64 0) rfl HS9.out ?_
    refine hdn ?_ _
    go_wp2_with fail
    have hbt := blk_keep hba hgb (fun e => by have e : bt = bs := e; have := HBs.out; omega)
    have hGb : Chg Non w Wb := HG2.out.then_new HS9.out (fun x e => by have := HBs.out; rcases e with e | e <;> omega)
    exact bodyPost_ret (res_get4 (n := .int .i64 n) (er := .int .i64 0) (by kernel_rfl) (by kernel_rfl) (by kernel_rfl) (by kernel_rfl) hbt (tagA_size _ HHh.out) hbb rfl) rfl ⟨.inr (.inr (.inr ⟨HN.out.1, HN.out.2, n, hash, s, _, _, HKg.out, HHh.out, rfl, HSt2.out.keepB HS9.out (fun x hx e => by have := HBs.out; rcases e with e | e <;> omega) (by have := HBs.out; omega)⟩)), hGb⟩
end
section
open Go.RowKit
end
section
open Go.RowKit Go.Shelf
attribute [local go_sem] Oper.semAt_some
end
section
open Go.RowKit
theorem print_no (I : Nat → Prop) (s : Sta) (vb vd : Value) (w : World) (h : StaV I w s vb vd) (hm : mayS s = false) :
  Calls Tryz.prog 32 #[.agg #[.int .i64 s.frames, vb, vd]] w fun e w' => e = .returned (.tuple #[.slice none 0 0, .int .i64 2]) ∧ Chg Non w w' := by
 have HM := Lh (fun W hg => smay_ok I s vb vd W (h.non (w' := W) hg))
 obtain ⟨⟨A, c, rfl, hc, hcm, hrp⟩, ⟨A2, c2, rfl, hc2, hcm2, hrq⟩⟩ := h
 rw [hm] at HM
 clear hrp hrq hm
 go_enter Tryz.func32, Tryz.ntmps32
 go_wp2_with fail
 refine (HM.out _ ((Chg.refl Non w).alloc _)).mono ?_
 rintro e v0 ⟨rfl, hg0⟩
 have HG := Lh (((Chg.refl Non w).alloc (.cells #[.int .i64 s.frames, .slice A s.parts.length c, .slice A2 s.queues.length c2] 25)).then_non hg0)
 clear hg0 HM
 go_wp2_with fail
 go_ret2
 first | exact HG.out | exact ⟨rfl, HG.out⟩
theorem print_any (I : Nat → Prop) (s : Sta) (vb vd : Value) (w : World) (h : StaV I w s vb vd) (hI : ∀ b, I b → b < w.heap.size) :
  Calls Tryz.prog 32 #[.agg #[.int .i64 s.frames, vb, vd]] w fun e w' =>
   (mayS s = true ∧ ∃ A c, e = .returned (.tuple #[.slice A (formS s).length c, .int .i64 0]) ∧ (formS s).length ≤ c ∧ c ≤ maxLen ∧ Own w.heap.size w' A (formS s) ∧ Chg Non w w') ∨
   (mayS s = false ∧ e = .returned (.tuple #[.slice none 0 0, .int .i64 2]) ∧ Chg Non w w') := by
 have hp : ∀ p ∈ s.parts, p.Bd := fun p hp => by
  obtain ⟨A, c, _, _, _, hr⟩ := h.ps
  obtain ⟨i, hi⟩ := List.getElem?_of_mem hp
  obtain ⟨_, _, _, _, _, _, _, _, _, _, hb, _⟩ := hr i p hi
  exact hb
 cases hm : mayS s with
 | false => exact (print_no I s vb vd w h hm).mono (fun e w' h => .inr ⟨rfl, h⟩)
 | true => exact (print_ok I s vb vd w h hI hm (stBd_may hm hp)).mono (fun e w' h => .inl ⟨rfl, h⟩)
end
section
open Go.RowKit Go.Shelf
attribute [local go_sem] Oper.semAt_some
theorem res_put {tmps : Array Value} {W : World} {g : Nat} {v : Value} (hp : tmps.getD 8 undef = .pointer (some ⟨g, 0, none⟩)) (hc : W.cell? ⟨g, 0, none⟩ = some v) : (results Tryz.f11 tmps).run Tryz.prog W = .ok v W := by
 have hp' : tmps[8]?.getD undef = .pointer (some ⟨g, 0, none⟩) := by simpa using hp
 simp [results, Tryz.results11, hp', asAddr, go_sem, hc]
end
section
open Go.RowKit
theorem oper_inR {P : Program} {o : Oper} {a : Act} {w : World} {K : Act → World → Prop} {Q : Exit → Act → World → Prop} (l n : Nat) (hnd : ∀ c, o.op ≠ .defer c) (h : o.wp P a w K Q) : o.wpIn (Fence.wide.inRound l) n P a w K Q := by
 refine ⟨fun _ _ => trivial, ?_⟩
 rw [Fence.inRound_round, Oper.semAt_some l _ _ hnd]
 unfold Oper.wp at h
 generalize (execOp a.eval o).run P w = r at *
 cases r with
 | ok x w' =>
  cases x <;> simp only [Oper.upon, Oper.uponIn] at h ⊢
  case value => exact h
  case skip => exact h
  case defer => exact h
  case enter f args => exact ⟨fun e => by simp [Fence.wide] at e, CallsIn.inRound l (callsIn_wide.2 h)⟩
  case row row args =>
   refine ⟨fun e => by simp [Fence.wide] at e, fun c cs _ => ?_⟩
   obtain ⟨v, w2, r, s⟩ := h c cs
   exact ⟨v, w2, r, stepsIn_wide.2 s⟩
 | halt x w' => cases x <;> simp only [Oper.upon, Oper.uponIn] at h ⊢ <;> exact h
section
variable {P : Program} {md : Region.Mode} {ops : Array Oper} {Q : Exit → Act → World → Prop}
theorem wpAny_inR (l n : Nat) (hnd : ∀ (i : Nat) (o : Oper), ops[i]? = some o → ∀ c, o.op ≠ .defer c) (hnl : ¬ LetsOut Q) : ∀ (fuel : Nat) (listed : Array Bool) (a : Act) (w : World), wpAny P md ops Q fuel listed a w → wpAnyIn (Fence.wide.inRound l) n P md ops Q fuel listed a w
 | 0, _, _, _, h => h
 | fuel + 1, listed, a, w, h => ⟨h.1, fun i hi => by
     have hs := h.2 i hi
     unfold wpOp at hs
     unfold wpOpIn
     cases ho : ops[i]? with
     | none =>
       rw [ho] at hs
       exact wpAny_inR l n hnd hnl fuel _ _ _ hs
     | some o =>
       rw [ho] at hs
       simp only at hs ⊢
       split
       · rename_i hw
         rw [if_pos hw] at hs
         rcases hs with hs | hs
         · exact oper_inR l n (hnd i o ho) (Oper.wp_mono (fun a w h => wpAny_inR l n hnd hnl fuel _ a w h) hs)
         · exact absurd hs.2 hnl
       · rename_i hw
         rw [if_neg hw] at hs
         exact ⟨fun _ _ => trivial, wpAny_inR l n hnd hnl fuel _ _ _ hs⟩⟩
def noDefer (ops : Array Oper) : Bool := ops.toList.all fun o => match o.op with | .defer _ => false | _ => true
theorem noDefer_of (h : noDefer ops = true) : ∀ (i : Nat) (o : Oper), ops[i]? = some o → ∀ c, o.op ≠ .defer c := fun i o ho c e => by
 have hm : o ∈ ops.toList := by
  rw [← Array.getElem?_toList] at ho
  exact List.mem_of_getElem? ho
 have := List.all_eq_true.1 h o hm
 rw [e] at this
 cases this
theorem region_inR {id l n : Nat} {S : World → Prop} {a : Act} {w : World} (hm : P.follows .mixedOrders = true) (hd : noDefer ops = true) (hnl : ¬ LetsOut Q) (hS : S w.drew)
  (h : S w.drew → wpAnyH P .any ops Q S ops.size (Array.replicate ops.size false) a w.drew) : (Code.region id ops true).wpIn (Fence.wide.inRound l) n P Q a w :=
 wpIn_region_any hm (wpAny_inR l n (noDefer_of hd) hnl _ _ _ _ (wpAny_of_held _ _ _ _ (h hS)))
end
end
section
open Go.RowKit
theorem Flush1_any (pd ps pm p1 : Nat) (D : Dk) (w : World) (h : IsD w pd ps pm D) (h1 : w.cell? ⟨p1, 0, none⟩ = some (.pointer (some ⟨pd, 0, none⟩))) :
  Calls Tryz.prog 80 #[.pointer (some ⟨p1, 0, none⟩)] w fun e w' => e = .returned (.tuple #[]) ∧ IsD w' pd ps pm (D.spill fun _ => true) ∧ Chg (DS pd ps pm) w w' := by
 have HS := Lh (spill_all pd ps pm D w h)
 clear h
 go_enter Tryz.func80, Tryz.ntmps80
 go_wp2_with fail
 refine HS.out.mono ?_
 rintro e w1 ⟨rfl, h1, hg1⟩
 go_wp2
 go_end0
 exact ⟨rfl, h1, hg1⟩
theorem Flush_any (pd ps pm : Nat) (D : Dk) (w : World) (h : IsD w pd ps pm D) (hsz : D.Sz) :
  Calls Tryz.prog 35 #[.pointer (some ⟨pd, 0, none⟩)] w fun e w' => e = .returned (.int .i64 D.flush.2) ∧ IsD w' pd ps pm D.flush.1 ∧ Chg (DS pd ps pm) w w' := by
 have hlt := h.lt
 obtain ⟨W0, hW0⟩ : ∃ W0, w.alloc (.cells #[.pointer (some ⟨pd, 0, none⟩)] 33) = W0 := ⟨_, rfl⟩
 have hg0 : Chg Non w W0 := by rw [← hW0]; exact (Chg.refl _ _).alloc _
 have x0 : W0.cell? ⟨w.heap.size, 0, none⟩ = some (.pointer (some ⟨pd, 0, none⟩)) := by rw [← hW0, cell_of_row _ _ _ _ _ _ (heap_alloc_new _ _)]; rfl
 have h0 := h.non hg0
 have hrd := ready_ok pd ps pm D W0 h0
 have HW0 := Lh hW0
 clear hW0 h
 unfold Dk.flush
 cases hup : D.up with
 | false =>
  have hr1 : D.ready = 60 := by unfold Dk.ready; rw [hup]; rfl
  rw [hr1] at hrd
  have HR := Lh hrd
  have H0 := Lh h0
  clear hrd hr1 h0 hup
  simp only [if_true]
  go_enter Tryz.func35, Tryz.ntmps35
  go_wp2_with fail
  rw [HW0.out]
  refine HR.out.mono ?_
  rintro e w' ⟨rfl, rfl⟩
  go_wp2
  go_ret
  exact ⟨rfl, H0.out, hg0.of_non⟩
 | true =>
  have hr1 : D.ready = 0 := by unfold Dk.ready; rw [hup]; rfl
  rw [hr1] at hrd
  have HR := Lh hrd
  have H0 := Lh h0
  clear hrd hr1 h0 hup
  simp only [Bool.true_eq_false, if_false]
  unfold Dk.operate
  by_cases hle : D.left = 1
  ·simp only [hle, if_true]
   have HO := Lh (fun fv => operate_falls pd ps pm D fv W0 H0.out hle hsz.stay)
   clear hle
   go_enter Tryz.func35, Tryz.ntmps35
   go_wp2_with fail
   rw [HW0.out]
   refine HR.out.mono ?_
   rintro e w' ⟨rfl, rfl⟩
   go_wp2_with fail
   refine (HO.out _).mono ?_
   rintro e w1 ⟨rfl, h1, hg1⟩
   go_wp2
   go_ret
   exact ⟨rfl, h1, hg0.non_then hg1⟩
  ·simp only [hle, if_false]
   have HO := Lh (operate_goes pd ps pm D (Dk.spill { D with left := max (D.left - 1) 0 } fun _ => true) 80 #[.pointer (some ⟨w.heap.size, 0, none⟩)] W0 H0.out hle hsz.left
     (.func (.func 80) #[] #[.pointer (some ⟨w.heap.size, 0, none⟩)]) (.inr ⟨rfl, rfl⟩)
     (fun W hW hgW => Flush1_any pd ps pm w.heap.size { D with left := max (D.left - 1) 0 } W hW (hgW.cell_some x0 (by show w.heap.size ≠ pd; omega))))
   clear hle
   go_enter Tryz.func35, Tryz.ntmps35
   go_wp2_with fail
   rw [HW0.out]
   refine HR.out.mono ?_
   rintro e w' ⟨rfl, rfl⟩
   go_wp2_with fail
   refine HO.out.mono ?_
   rintro e w1 ⟨rfl, h1, hg1⟩
   go_wp2
   go_ret
   exact ⟨rfl, h1, hg0.non_then hg1⟩
theorem Crash_any (pd ps pm : Nat) (D : Dk) (B : Option Addr) (m : List UInt8) (cm : Nat) (w : World) (h : IsD w pd ps pm D) (hBm : Rd w B m) (hBn : ∀ b o, B = some ⟨b, o, none⟩ → m ≠ [] → ¬ DS pd ps pm b) (hml : m.length ≤ 140737488351232) :
  Calls Tryz.prog 41 #[.pointer (some ⟨pd, 0, none⟩), .slice B m.length cm] w fun e w' => e = .returned (.int .i64 (D.crash m).2) ∧ IsD w' pd ps pm (D.crash m).1 ∧ Chg (DS pd ps pm) w w' := by
 have hrd := ready_ok pd ps pm D w h
 have HF := Lh (fall_any pd ps pm D B m cm w h hBm hBn hml)
 have HD := Lh h
 clear h
 unfold Dk.crash
 cases hup : D.up with
 | false =>
  have hr1 : D.ready = 60 := by unfold Dk.ready; rw [hup]; rfl
  rw [hr1] at hrd
  have HR := Lh hrd
  clear hrd hr1 hup
  simp only [if_true]
  go_enter Tryz.func41, Tryz.ntmps41
  go_wp2_with fail
  refine HR.out.mono ?_
  rintro e w' ⟨rfl, rfl⟩
  go_wp2
  go_ret
  exact ⟨rfl, HD.out, Chg.refl _ _⟩
 | true =>
  have hr1 : D.ready = 0 := by unfold Dk.ready; rw [hup]; rfl
  rw [hr1] at hrd
  have HR := Lh hrd
  clear hrd hr1 hup
  simp only [Bool.true_eq_false, if_false]
  go_enter Tryz.func41, Tryz.ntmps41
  go_wp2_with fail
  refine HR.out.mono ?_
  rintro e w' ⟨rfl, rfl⟩
  go_wp2_with fail
  refine HF.out.mono ?_
  rintro e w1 ⟨rfl, h1, hg1⟩
  go_wp2
  go_ret
  exact ⟨rfl, h1, hg1⟩
end
end Go.Proofs.YtkgnlobabknkcaaGreat
