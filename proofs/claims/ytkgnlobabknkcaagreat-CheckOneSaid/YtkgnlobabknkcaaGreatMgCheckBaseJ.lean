/- CheckBase, part 10 of 21: contracts of the functions that it reaches, and the laws that they need, merged and shortened (from my texts XSIs, XStM, XStN). -/
import Derived.Test.YtkgnlobabknkcaaGreatMgCheckBaseB
import Derived.Test.YtkgnlobabknkcaaGreatMgCheckBaseH
import Derived.Test.YtkgnlobabknkcaaGreatMgCheckBaseI
namespace Go.Proofs.YtkgnlobabknkcaaGreat
set_option linter.unusedVariables false
set_option linter.unusedSimpArgs false
set_option maxHeartbeats 8000000
section
open Go.RowKit
deriving instance DecidableEq for Ch
def Ch.C (x : Ch) : Array Value := #[.int .i64 x.id, .int .i64 x.src, .int .i64 x.dst, .int .i64 x.cap, .int .i64 x.size]
def chLits (x : Ch) : List Lit := [.int .i64 x.id, .int .i64 x.src, .int .i64 x.dst, .int .i64 x.cap, .int .i64 x.size]
theorem chLits_inj {p q : Ch} : chLits p = chLits q ↔ p = q := by
 obtain ⟨a, b, c, d, e⟩ := p
 obtain ⟨a', b', c', d', e'⟩ := q
 simp [chLits]
set_option maxRecDepth 100000 in
theorem keyLits_ch (x : Ch) (h : x.Bd) : Tryz.prog.keyLits 3 107 x.C.toList = some (chLits x) := by
 obtain ⟨a, b, c, d, e⟩ := x
 obtain ⟨h1, h2, h3, h4, h5⟩ := h
 simp only at h1 h2 h3 h4 h5
 unfold Program.keyLits
 rw [Tryz.underlying107]
 have c1 : Tryz.prog.cellsOf 3 = 1 := by kernel_rfl
 have c5 : Tryz.prog.cellsOf 107 = 5 := by kernel_rfl
 have k1 := keyLits_i64 (D := 1) Tryz.underlying3 a h1
 have k2 := keyLits_i64 (D := 1) Tryz.underlying3 b h2
 have k3 := keyLits_i64 (D := 1) Tryz.underlying3 c h3
 have k4 := keyLits_i64 (D := 1) Tryz.underlying3 d h4
 have k5 := keyLits_i64 (D := 1) Tryz.underlying3 e h5
 simp [Ch.C, c1, c5, k1, k2, k3, k4, k5, chLits]
theorem ch_formed (x : Ch) : (Value.agg x.C).formed Tryz.prog 107 = true := by
 have c4 : Tryz.prog.cellsOf 107 = 5 := by kernel_rfl
 unfold Value.formed
 rw [Tryz.underlying107]
 simp [c4, Ch.C]
theorem ptV_one {I : Nat → Prop} : ∀ W a vs, ptV I W a vs → ∀ u ∈ vs, u.oneCell' = true := by
 rintro W a vs ⟨m, rfl, ⟨A, c, rfl, _⟩, _⟩ u hu
 have := partC_one a (.slice A a.mem.length c) rfl
 rw [partC, List.all_toArray, List.all_eq_true] at this
 exact this u hu
theorem quV_one {I : Nat → Prop} : ∀ W a vs, quV I W a vs → ∀ u ∈ vs, u.oneCell' = true := by
 rintro W a vs ⟨m, rfl, ⟨A, c, rfl, _⟩, _⟩ u hu
 simp only [Qu.L, List.mem_cons, List.not_mem_nil, or_false] at hu
 rcases hu with rfl | rfl | rfl | rfl | rfl | rfl <;> rfl
theorem msgV_one {I : Nat → Prop} : ∀ W a vs, msgV I W a vs → ∀ u ∈ vs, u.oneCell' = true := by
 rintro W a vs ⟨m, rfl, ⟨A, c, rfl, _⟩, _⟩ u hu
 simp only [List.mem_cons, List.not_mem_nil, or_false] at hu
 subst hu
 rfl
end
section
open Go.RowKit
theorem IsWN.less {N M : Nat → Prop} {p : Nat} {l : List UInt8} {er : Int} {w : World} (h : IsWN M w p l er) (hN : ∀ k, N k → M k) : IsWN N w p l er := by
 obtain ⟨h1, h2, v, h3, h4, h5⟩ := h
 exact ⟨fun k hk => h1 k (hN k hk), fun hk => h2 (hN _ hk), v, h3, h4, fun g e hk => h5 g e (hN _ hk)⟩
theorem Nt.less {N M : Nat → Prop} {w w' : World} (h : Chg (Nt M) w w') (hN : ∀ k, N k → M k) : Chg (Nt N) w w' := h.mono (fun k hk hn => hk (hN k hn))
theorem putsMsg (I N : Nat → Prop) (l : List (List UInt8)) (p bx : Nat) : Puts (msgV I) oneV l wBy N p bx 76 := by
 rintro W a vs f ha ⟨m, rfl, ⟨A, c, rfl, hc, hm, hrd, _⟩, hl⟩ hW hbx hroom
 have HB := Lib.hid (WBytes_N N p c f a A W hW hrd (by rw [wBy_len] at hroom; omega))
 clear hW hrd hroom
 show Calls Tryz.prog 76 #[.slice A a.length c, .pointer (some ⟨bx, 0, none⟩)] W _
 go_enter Tryz.func76, Tryz.ntmps76
 go_wp2_with fail
 refine HB.out.mono ?_
 rintro e u ⟨rfl, h⟩
 go_wp2_with fail
 go_end0
 exact ⟨rfl, h⟩
def Nb (N : Nat → Prop) (b : Nat) : Nat → Prop := fun k => N k ∨ k = b
theorem IsWN.box {N : Nat → Prop} {p : Nat} {l : List UInt8} {w : World} (h : IsWN N w p l 0) (o : Obj) : IsWN (Nb N w.heap.size) (w.alloc o) p l 0 :=
 h.more ((Chg.refl Non w).alloc o) (fun k hk => hk.imp id (fun e => by subst e; simp))
set_option maxRecDepth 100000 in
theorem idx8 {RL : List Value} (h : RL.length = 8) {k : Nat} {v : Value} (hv : RL[k]? = some v) (W : World) : (Instr.index 102 (.agg RL.toArray) (.int .i64 (k : Int))).run Tryz.prog W = .ok v W := by
 have x0 : ∀ (v0 v1 v2 v3 v4 v5 v6 v7 : Value) (W : World), (Instr.index 102 (.agg #[v0, v1, v2, v3, v4, v5, v6, v7]) (.int .i64 0)).run Tryz.prog W = .ok v0 W := fun _ _ _ _ _ _ _ _ _ => by kernel_rfl
 have x1 : ∀ (v0 v1 v2 v3 v4 v5 v6 v7 : Value) (W : World), (Instr.index 102 (.agg #[v0, v1, v2, v3, v4, v5, v6, v7]) (.int .i64 1)).run Tryz.prog W = .ok v1 W := fun _ _ _ _ _ _ _ _ _ => by kernel_rfl
 have x2 : ∀ (v0 v1 v2 v3 v4 v5 v6 v7 : Value) (W : World), (Instr.index 102 (.agg #[v0, v1, v2, v3, v4, v5, v6, v7]) (.int .i64 2)).run Tryz.prog W = .ok v2 W := fun _ _ _ _ _ _ _ _ _ => by kernel_rfl
 have x3 : ∀ (v0 v1 v2 v3 v4 v5 v6 v7 : Value) (W : World), (Instr.index 102 (.agg #[v0, v1, v2, v3, v4, v5, v6, v7]) (.int .i64 3)).run Tryz.prog W = .ok v3 W := fun _ _ _ _ _ _ _ _ _ => by kernel_rfl
 have x4 : ∀ (v0 v1 v2 v3 v4 v5 v6 v7 : Value) (W : World), (Instr.index 102 (.agg #[v0, v1, v2, v3, v4, v5, v6, v7]) (.int .i64 4)).run Tryz.prog W = .ok v4 W := fun _ _ _ _ _ _ _ _ _ => by kernel_rfl
 have x5 : ∀ (v0 v1 v2 v3 v4 v5 v6 v7 : Value) (W : World), (Instr.index 102 (.agg #[v0, v1, v2, v3, v4, v5, v6, v7]) (.int .i64 5)).run Tryz.prog W = .ok v5 W := fun _ _ _ _ _ _ _ _ _ => by kernel_rfl
 have x6 : ∀ (v0 v1 v2 v3 v4 v5 v6 v7 : Value) (W : World), (Instr.index 102 (.agg #[v0, v1, v2, v3, v4, v5, v6, v7]) (.int .i64 6)).run Tryz.prog W = .ok v6 W := fun _ _ _ _ _ _ _ _ _ => by kernel_rfl
 have x7 : ∀ (v0 v1 v2 v3 v4 v5 v6 v7 : Value) (W : World), (Instr.index 102 (.agg #[v0, v1, v2, v3, v4, v5, v6, v7]) (.int .i64 7)).run Tryz.prog W = .ok v7 W := fun _ _ _ _ _ _ _ _ _ => by kernel_rfl
 match RL, h with
 | [v0, v1, v2, v3, v4, v5, v6, v7], _ =>
  have hk : k < 8 := (List.getElem?_eq_some_iff.1 hv).1
  have hc : k = 0 ∨ k = 1 ∨ k = 2 ∨ k = 3 ∨ k = 4 ∨ k = 5 ∨ k = 6 ∨ k = 7 := by omega
  rcases hc with rfl | rfl | rfl | rfl | rfl | rfl | rfl | rfl
  ·simp only [List.getElem?_cons_zero, List.getElem?_cons_succ, Option.some.injEq] at hv; subst hv; exact x0 v0 v1 v2 v3 v4 v5 v6 v7 W
  ·simp only [List.getElem?_cons_zero, List.getElem?_cons_succ, Option.some.injEq] at hv; subst hv; exact x1 v0 v1 v2 v3 v4 v5 v6 v7 W
  ·simp only [List.getElem?_cons_zero, List.getElem?_cons_succ, Option.some.injEq] at hv; subst hv; exact x2 v0 v1 v2 v3 v4 v5 v6 v7 W
  ·simp only [List.getElem?_cons_zero, List.getElem?_cons_succ, Option.some.injEq] at hv; subst hv; exact x3 v0 v1 v2 v3 v4 v5 v6 v7 W
  ·simp only [List.getElem?_cons_zero, List.getElem?_cons_succ, Option.some.injEq] at hv; subst hv; exact x4 v0 v1 v2 v3 v4 v5 v6 v7 W
  ·simp only [List.getElem?_cons_zero, List.getElem?_cons_succ, Option.some.injEq] at hv; subst hv; exact x5 v0 v1 v2 v3 v4 v5 v6 v7 W
  ·simp only [List.getElem?_cons_zero, List.getElem?_cons_succ, Option.some.injEq] at hv; subst hv; exact x6 v0 v1 v2 v3 v4 v5 v6 v7 W
  ·simp only [List.getElem?_cons_zero, List.getElem?_cons_succ, Option.some.injEq] at hv; subst hv; exact x7 v0 v1 v2 v3 v4 v5 v6 v7 W
set_option maxRecDepth 100000 in
theorem putsPart (I N : Nat → Prop) (hI : ∀ b, I b → N b) (l : List Pt) (p bx : Nat) (hbN : N bx) : Puts (ptV I) aggV l wPt N p bx 69 := by
 rintro W a vs f ha ⟨m, rfl, ⟨A, c, rfl, hc, hm, hrd, hIA⟩, hbd, hl⟩ hW hbx hroom
 have hroom2 : f.length + 94 + a.mem.length ≤ 65536 := by rw [wPt_len hbd.r8] at hroom; omega
 have HBd := Lib.hid hbd
 have HFm : Hid (∀ g : List UInt8, g = f ++ (be (u64 a.id) 8) ++ (be (u64 a.size) 8) ++ [flagB a.keep] → g ++ (a.r.flatMap fun n : Nat => be (u64 (n : Int)) 8) ++ (be (u64 (a.pc : Int)) 8) ++ [UInt8.ofNat a.st] ++ (be a.mem.length 4 ++ a.mem) = f ++ wPt a) := Lib.hid (fun g h => by
   rw [h]; unfold wPt wWords wBy; simp only [wInt, List.append_assoc, List.cons_append, List.nil_append])
 show Calls Tryz.prog 69 #[.agg (partC a (.slice A a.mem.length c)), .pointer (some ⟨bx, 0, none⟩)] W _
 obtain ⟨C, hC⟩ : ∃ C, partC a (.slice A a.mem.length c) = C := ⟨_, rfl⟩
 have hsz : C.size = 14 := by rw [← hC]; exact partC_size hbd.r8 _
 have HC := Lib.hid hC
 have hX0 := Lib.hid (hW.box (.cells C 104))
 have hP0 : Hid (PartB (W.alloc (.cells C 104)) W.heap.size a (.slice A a.mem.length c)) := Lib.hid ⟨by unfold PartAt; rw [hC]; exact blk_new _ _, hbd.r8⟩
 have HRd : Hid (∀ W', Chg (Nt (Nb N W.heap.size)) (W.alloc (.cells C 104)) W' → Rd W' A a.mem) := Lib.hid (fun W' hg =>
   (hrd.non ((Chg.refl Non W).alloc (.cells C 104))).keep hg (fun b o e hne h => h (.inl (hI _ (hIA b o e hne)))))
 have q0 := ((Chg.refl Non W).alloc (.cells C 104)).cell_some hbx (fun e => e)
 have hgN : Hid (Chg (Nt N) W (W.alloc (.cells C 104))) := Lib.hid ((Chg.refl _ W).alloc _)
 rw [hC]
 clear hC hW hrd hbx hIA hroom
 go_enter Tryz.func69, Tryz.ntmps69
 go_wp2_with fail
 obtain ⟨W0, hW0⟩ : ∃ W0, W.alloc (.cells C 104) = W0 := ⟨_, rfl⟩
 obtain ⟨b2, hb2⟩ : ∃ b2, W.heap.size = b2 := ⟨_, rfl⟩
 rw [hW0] at hX0 hP0 HRd q0 hgN ⊢
 rw [hb2] at hX0 hP0 HRd ⊢
 clear hW0 hb2
 have HS : Hid (Chg (Nt (Nb N b2)) W0 W0.drew) := Lib.hid ((Chg.refl _ _).drew)
 have HX : Hid (IsWN (Nb N b2) W0.drew p f 0) := Lib.hid (isWN_chg hX0.out ((Chg.refl Non _).drew))
 obtain ⟨p0, p1, p2, p11, p12, p13⟩ := hP0.out.cells
 refine wp_region_held_drew (S := Chg (Nt (Nb N b2)) W0) (by kernel_rfl) HS.out (fun hHeld => ?_)
 clear hHeld
 refine hp 0 5 (.pointer (some ⟨p, 0, none⟩)) rfl HS.out ?_ (he := (fun W hW => by have hc := hW.cell_some q0 (fun h => h (.inl hbN)); go_simp))
 refine hp 1 6 (.pointer (some ⟨b2, 0, none⟩)) rfl HS.out ?_
 refine hp 2 7 (.int .i64 a.id) rfl HS.out ?_ (he := (fun W hW => by have hc := hW.cell_some p0 (fun h => h (.inr rfl)); go_simp))
 refine hp 4 9 (.pointer (some ⟨b2, 1, none⟩)) rfl HS.out ?_
 refine hp 5 10 (.int .i64 a.size) rfl HS.out ?_ (he := (fun W hW => by have hc := hW.cell_some p1 (fun h => h (.inr rfl)); go_simp))
 refine hp 7 12 (.pointer (some ⟨b2, 2, none⟩)) rfl HS.out ?_
 refine hp 8 13 (.bool a.keep) rfl HS.out ?_ (he := (fun W hW => by have hc := hW.cell_some p2 (fun h => h (.inr rfl)); go_simp))
 refine h_one 3 (by kernel_rfl) rfl (by kernel_rfl) ?_
 intro K hK
 go_simp
 refine (WInt_N (Nb N b2) p f a.id _ HX.out (by omega)).mono ?_
 rintro e u1 ⟨rfl, hwu1, hgu1⟩
 have HX := Lib.hid hwu1
 have HS := Lib.hid (HS.out.trans_same hgu1)
 refine hK.out _ _ HS.out (fun _ => ?_)
 clear hK K hwu1 hgu1
 try simp only [Act.put, sA, sB, sC]
 refine h_one 6 (by kernel_rfl) rfl (by kernel_rfl) ?_
 intro K hK
 go_simp
 refine (WInt_N (Nb N b2) p _ a.size _ HX.out (by rw [List.length_append, be_length]; omega)).mono ?_
 rintro e u2 ⟨rfl, hwu2, hgu2⟩
 have HX := Lib.hid hwu2
 have HS := Lib.hid (HS.out.trans_same hgu2)
 refine hK.out _ _ HS.out (fun _ => ?_)
 clear hK K hwu2 hgu2
 try simp only [Act.put, sA, sB, sC]
 refine h_one 9 (by kernel_rfl) rfl (by kernel_rfl) ?_
 intro K hK
 go_simp
 refine (WFlag_N (Nb N b2) p _ a.keep _ HX.out (by simp only [List.length_append, be_length]; omega)).mono ?_
 rintro e u3 ⟨rfl, hwu3, hgu3⟩
 have HX := Lib.hid hwu3
 have HS := Lib.hid (HS.out.trans_same hgu3)
 refine hK.out _ _ HS.out (fun _ => ?_)
 clear hK K hwu3 hgu3
 try simp only [Act.put, sA, sB, sC]
 refine wpAnyH_done (by kernel_rfl) ?_ _
 obtain ⟨g, hg⟩ : ∃ g, f ++ (be (u64 a.id) 8) ++ (be (u64 a.size) 8) ++ [flagB a.keep] = g := ⟨_, rfl⟩
 have hgl : g.length = f.length + 17 := by rw [← hg]; simp only [List.length_append, be_length, List.length_cons, List.length_nil]
 replace HFm := Lib.hid (HFm.out g hg.symm)
 rw [hg] at HX
 clear hg
 have hrr : Hid (u3.rangeAt b2 3 (a.r.map fun n : Nat => Value.int .u32 n)) := Lib.hid (fun j v hv => by
   rw [List.getElem?_map] at hv
   obtain ⟨n, hn, rfl⟩ := Option.map_eq_some_iff.1 hv
   have hj := (List.getElem?_eq_some_iff.1 hn).1
   have h := hP0.out.reg j (by rw [HBd.out.r8] at hj; exact hj)
   rw [Pt.g, List.getD, hn] at h
   exact HS.out.cell_some h (fun h => h (.inr rfl)))
 have hrl : Hid ((a.r.map fun n : Nat => Value.int .u32 n).length = 8) := Lib.hid (by rw [List.length_map, HBd.out.r8])
 obtain ⟨RL, hRL⟩ : ∃ RL, (a.r.map fun n : Nat => Value.int .u32 n) = RL := ⟨_, rfl⟩
 rw [hRL] at hrr hrl
 have HRL := Lib.hid hRL
 clear hRL
 go_wp2_with (refine sel (some 16) (.load _ (.tmp 15)) ?_; refine wpList_load_mid rfl 102 (.tmp 15) rfl b2 3 rfl RL _ hrr.out Tryz.underlying102 rfl (by rw [hrl.out]; kernel_rfl) ?_)
 go_loopw [17] (fun iv wr => ∃ k : Nat, k ≤ 8 ∧ iv = .int .i64 k ∧ Hid (IsWN (Nb N b2) wr p (g ++ (a.r.take k).flatMap fun n : Nat => be (u64 (n : Int)) 8) 0) ∧ Hid (Chg (Nt (Nb N b2)) W0 wr)) (fun iv _ => 8 - (intOf iv).toNat)
 case atStart => exact ⟨0, Nat.zero_le _, rfl, Lib.hid (by simpa using HX.out), HS⟩
 case round =>
  obtain ⟨k, hk, rfl, HX, HS⟩ := hrel
  by_cases hlt : k < 8
  ·obtain ⟨rk, hrk⟩ : ∃ r, a.r[k]? = some r := ⟨_, List.getElem?_eq_getElem (by rw [HBd.out.r8]; exact hlt)⟩
   have hltd : decide ((k : Int) < 8) = true := by rw [decide_eq_true_eq]; omega
   have hrb : (rk : Int) < 4294967296 := by
    have h := HBd.out.rb k
    rw [List.getD, hrk] at h
    simp only [Option.getD_some] at h
    omega
   have hidx := idx8 hrl.out (k := k) (v := .int .u32 (rk : Nat)) (by rw [← HRL.out, List.getElem?_map, hrk]; rfl)
   have q1 : wr.cell? ⟨bx, 0, none⟩ = some (.pointer (some ⟨p, 0, none⟩)) := HS.out.cell_some q0 (fun h => h (.inl hbN))
   have HI := Lib.hid (WInt_N (Nb N b2) p _ (rk : Int) wr HX.out (by
     have h1 := flat_take_le (fun n : Nat => be (u64 (n : Int)) 8) a.r k
     have h2 : (a.r.flatMap fun n : Nat => be (u64 (n : Int)) 8).length = 64 := wWords_len HBd.out.r8
     rw [List.length_append]
     omega))
   have HSn := Lib.hid (flat_snoc (wt := fun n : Nat => be (u64 (n : Int)) 8) hrk)
   clear hrk
   go_wp2_with fail
   refine HI.out.mono ?_
   rintro e u ⟨rfl, hw, hg⟩
   have HX2 : Hid (IsWN (Nb N b2) u p (g ++ (a.r.take (k + 1)).flatMap fun n : Nat => be (u64 (n : Int)) 8) 0) := Lib.hid (by rw [HSn.out, ← List.append_assoc]; exact hw)
   have HS2 := Lib.hid (HS.out.trans_same hg)
   clear hw hg
   go_wp2_with fail
   exact ⟨⟨k + 1, by omega, by simp, HX2, HS2⟩, by simp [intOf]; omega⟩
  ·obtain rfl : k = 8 := by omega
   have hltd : decide (((8 : Nat) : Int) < 8) = false := by decide
   have HXe : Hid (IsWN (Nb N b2) wr p (g ++ a.r.flatMap fun n : Nat => be (u64 (n : Int)) 8) 0) := Lib.hid (by
     have h := HX.out
     rwa [List.take_of_length_le (by rw [HBd.out.r8]; exact Nat.le_refl _)] at h)
   have hgl2 : (g ++ a.r.flatMap fun n : Nat => be (u64 (n : Int)) 8).length = f.length + 81 := by
    have h2 : (a.r.flatMap fun n : Nat => be (u64 (n : Int)) 8).length = 64 := wWords_len HBd.out.r8
    rw [List.length_append]; omega
   obtain ⟨g2, hg2⟩ : ∃ g2, (g ++ a.r.flatMap fun n : Nat => be (u64 (n : Int)) 8) = g2 := ⟨_, rfl⟩
   rw [hg2] at HXe hgl2 HFm
   clear hg2 HX
   have HBy : Hid (∀ (W : World) (x : List UInt8), IsWN (Nb N b2) W p x 0 → x.length + 1 ≤ 65536 → Calls Tryz.prog 71 #[.pointer (some ⟨p, 0, none⟩), .int .u8 (a.st : Nat)] W fun e w' => e = .returned (.pointer (some ⟨p, 0, none⟩)) ∧ IsWN (Nb N b2) w' p (x ++ [UInt8.ofNat a.st]) 0 ∧ Chg (Nt (Nb N b2)) W w') := Lib.hid (fun W x h1 h2 => by
     have h := WByte_N (Nb N b2) p x (UInt8.ofNat a.st) W h1 h2
     have e8 : (UInt8.ofNat a.st).toNat = a.st := by rw [ofNat_toNat]; have := HBd.out.stb; omega
     rwa [e8] at h)
   have hpc : (a.pc : Int) < 4294967296 := by have := HBd.out.pcb; omega
   go_wp2_with fail
   have HX : Hid (IsWN (Nb N b2) wr.drew p g2 0) := Lib.hid (isWN_chg HXe.out ((Chg.refl Non _).drew))
   replace HS := Lib.hid (HS.out.trans_same ((Chg.refl _ wr).drew))
   refine wp_region_held_drew (S := Chg (Nt (Nb N b2)) W0) (by kernel_rfl) HS.out (fun hHeld => ?_)
   clear hHeld
   refine hp 0 25 (.pointer (some ⟨p, 0, none⟩)) rfl HS.out ?_ (he := (fun W hW => by have hc := hW.cell_some q0 (fun h => h (.inl hbN)); go_simp))
   refine hp 1 26 (.pointer (some ⟨b2, 11, none⟩)) rfl HS.out ?_
   refine hp 2 27 (.int .u32 (a.pc : Nat)) rfl HS.out ?_ (he := (fun W hW => by have hc := hW.cell_some p11 (fun h => h (.inr rfl)); go_simp))
   refine hp 3 28 (.int .i64 (a.pc : Nat)) rfl HS.out ?_ (he := (fun W hW => by have hw := Go.IntWalk.i64_in (a.pc : Int) (by omega); go_simp))
   refine hp 5 30 (.pointer (some ⟨b2, 12, none⟩)) rfl HS.out ?_
   refine hp 6 31 (.int .u8 (a.st : Nat)) rfl HS.out ?_ (he := (fun W hW => by have hc := hW.cell_some p12 (fun h => h (.inr rfl)); go_simp))
   refine hp 8 33 (.pointer (some ⟨b2, 13, none⟩)) rfl HS.out ?_
   refine hp 9 34 (.slice A a.mem.length c) rfl HS.out ?_ (he := (fun W hW => by have hc := hW.cell_some p13 (fun h => h (.inr rfl)); go_simp))
   refine h_one 4 (by kernel_rfl) rfl (by kernel_rfl) ?_
   intro K hK
   go_simp
   refine (WInt_N (Nb N b2) p _ (a.pc : Int) _ HX.out (by omega)).mono ?_
   rintro e u1 ⟨rfl, hwu1, hgu1⟩
   have HX := Lib.hid hwu1
   have HS := Lib.hid (HS.out.trans_same hgu1)
   refine hK.out _ _ HS.out (fun _ => ?_)
   clear hK K hwu1 hgu1
   try simp only [Act.put, sA, sB, sC]
   refine h_one 7 (by kernel_rfl) rfl (by kernel_rfl) ?_
   intro K hK
   go_simp
   refine (HBy.out _ _ HX.out (by rw [List.length_append, be_length]; omega)).mono ?_
   rintro e u2 ⟨rfl, hwu2, hgu2⟩
   have HX := Lib.hid hwu2
   have HS := Lib.hid (HS.out.trans_same hgu2)
   refine hK.out _ _ HS.out (fun _ => ?_)
   clear hK K hwu2 hgu2
   try simp only [Act.put, sA, sB, sC]
   refine h_one 10 (by kernel_rfl) rfl (by kernel_rfl) ?_
   intro K hK
   go_simp
   refine (WBytes_N (Nb N b2) p c _ a.mem A _ HX.out (HRd.out _ HS.out) (by simp only [List.length_append, be_length, List.length_cons, List.length_nil]; omega)).mono ?_
   rintro e u3 ⟨rfl, hwu3, hgu3⟩
   have HX := Lib.hid hwu3
   have HS := Lib.hid (HS.out.trans_same hgu3)
   refine hK.out _ _ HS.out (fun _ => ?_)
   clear hK K hwu3 hgu3
   try simp only [Act.put, sA, sB, sC]
   refine wpAnyH_done (by kernel_rfl) ?_ _
   have HXn := Lib.hid (HX.out.less (N := N) (fun k h => .inl h))
   rw [HFm.out] at HXn
   have HSn := Lib.hid (hgN.out.trans_same (Nt.less (N := N) HS.out (fun k h => .inl h)))
   go_wp2_with fail
   go_end0
   exact ⟨rfl, HXn.out, HSn.out⟩
set_option maxRecDepth 100000 in
theorem putsQueue (I N : Nat → Prop) (hI : ∀ b, I b → N b) (l : List Qu) (p bx : Nat) (hbN : N bx) (hl4 : ∀ q ∈ l, q.msgs.length ≤ 1000) : Puts (quV I) aggV l wQu N p bx 74 := by
 rintro W a vs f ha ⟨m, rfl, hm, hbd, hl⟩ hW hbx hroom
 have hml := hl4 a ha
 have hroom2 : f.length + 40 + (wMs a.msgs).length ≤ 65536 := by
  have e : (wQu a).length = 40 + (wMs a.msgs).length := by unfold wQu; simp only [List.length_append, wInt_len8]; omega
  rw [e] at hroom; omega
 have HFm : Hid (f ++ be (u64 a.ch.id) 8 ++ be (u64 a.ch.src) 8 ++ be (u64 a.ch.dst) 8 ++ be (u64 a.ch.cap) 8 ++ be (u64 a.ch.size) 8 ++ wMs a.msgs = f ++ wQu a) := Lib.hid (by
   unfold wQu; simp only [wInt, List.append_assoc])
 obtain ⟨A, c, rfl, hc, hcm, hr⟩ := hm
 have HR := Lib.hid hr
 have HW := Lib.hid hW
 clear hW hr hroom ha hl4
 show Calls Tryz.prog 74 #[.agg (a.L (.slice A a.msgs.length c)).toArray, .pointer (some ⟨bx, 0, none⟩)] W _
 simp only [Qu.L]
 go_enter Tryz.func74, Tryz.ntmps74
 go_wp2_with fail
 obtain ⟨OQ, hOQ⟩ : ∃ o, Obj.cells #[.int .i64 a.ch.id, .int .i64 a.ch.src, .int .i64 a.ch.dst, .int .i64 a.ch.cap, .int .i64 a.ch.size, .slice A a.msgs.length c] 110 = o := ⟨_, rfl⟩
 obtain ⟨OC, hOC⟩ : ∃ o, Obj.cells #[.int .i64 a.ch.id, .int .i64 a.ch.src, .int .i64 a.ch.dst, .int .i64 a.ch.cap, .int .i64 a.ch.size] 107 = o := ⟨_, rfl⟩
 rw [hOQ, hOC]
 have hs1 : (W.alloc OQ).heap.size = W.heap.size + 1 := by simp
 have hX0 := (HW.out.box OQ).box OC
 rw [hs1] at hX0
 have hg2 : Chg Non W ((W.alloc OQ).alloc OC) := ((Chg.refl Non W).alloc OQ).alloc OC
 have hbq := al_2_0 W OQ OC
 have hbc := al_2_1 W OQ OC
 obtain ⟨W0, hW0⟩ : ∃ W0, (W.alloc OQ).alloc OC = W0 := ⟨_, rfl⟩
 obtain ⟨b2, hb2⟩ : ∃ b2, W.heap.size = b2 := ⟨_, rfl⟩
 obtain ⟨b3, hb3⟩ : ∃ b3, b2 + 1 = b3 := ⟨_, rfl⟩
 rw [hW0] at hX0 hg2 hbq hbc ⊢
 rw [hb2] at hX0 hbq hbc ⊢
 rw [hb3] at hX0 hbc ⊢
 subst hOQ hOC
 have q0 := hg2.cell_some hbx (fun e => e)
 have m5 := blk_cell hbq 5 (v := .slice A a.msgs.length c) rfl
 have c0 := blk_cell hbc 0 (v := .int .i64 a.ch.id) rfl
 have c1 := blk_cell hbc 1 (v := .int .i64 a.ch.src) rfl
 have c2 := blk_cell hbc 2 (v := .int .i64 a.ch.dst) rfl
 have c3 := blk_cell hbc 3 (v := .int .i64 a.ch.cap) rfl
 have c4 := blk_cell hbc 4 (v := .int .i64 a.ch.size) rfl
 have HG0 := Lib.hid hg2
 have HNN : Hid (∀ k, N k → Nb (Nb N b2) b3 k) := Lib.hid (fun k h => .inl (.inl h))
 clear hW0 hb2 hb3 hbq hbc hs1 HW hbx hg2
 have HS : Hid (Chg (Nt (Nb (Nb N b2) b3)) W0 W0.drew) := Lib.hid ((Chg.refl _ _).drew)
 have HX : Hid (IsWN (Nb (Nb N b2) b3) W0.drew p f 0) := Lib.hid (isWN_chg hX0 ((Chg.refl Non _).drew))
 clear hX0
 refine wp_region_held_drew (S := Chg (Nt (Nb (Nb N b2) b3)) W0) (by kernel_rfl) HS.out (fun hHeld => ?_)
 clear hHeld
 refine hp 0 6 (.pointer (some ⟨p, 0, none⟩)) rfl HS.out ?_ (he := (fun W hW => by have hc := hW.cell_some q0 (fun h => h (HNN.out _ hbN)); go_simp))
 refine hp 1 7 (.pointer (some ⟨b3, 0, none⟩)) rfl HS.out ?_
 refine hp 2 8 (.int .i64 a.ch.id) rfl HS.out ?_ (he := (fun W hW => by have hc := hW.cell_some c0 (fun h => h (.inr rfl)); go_simp))
 refine hp 4 10 (.pointer (some ⟨b3, 1, none⟩)) rfl HS.out ?_
 refine hp 5 11 (.int .i64 a.ch.src) rfl HS.out ?_ (he := (fun W hW => by have hc := hW.cell_some c1 (fun h => h (.inr rfl)); go_simp))
 refine hp 7 13 (.pointer (some ⟨b3, 2, none⟩)) rfl HS.out ?_
 refine hp 8 14 (.int .i64 a.ch.dst) rfl HS.out ?_ (he := (fun W hW => by have hc := hW.cell_some c2 (fun h => h (.inr rfl)); go_simp))
 refine hp 10 16 (.pointer (some ⟨b3, 3, none⟩)) rfl HS.out ?_
 refine hp 11 17 (.int .i64 a.ch.cap) rfl HS.out ?_ (he := (fun W hW => by have hc := hW.cell_some c3 (fun h => h (.inr rfl)); go_simp))
 refine hp 13 19 (.pointer (some ⟨b3, 4, none⟩)) rfl HS.out ?_
 refine hp 14 20 (.int .i64 a.ch.size) rfl HS.out ?_ (he := (fun W hW => by have hc := hW.cell_some c4 (fun h => h (.inr rfl)); go_simp))
 refine h_one 3 (by kernel_rfl) rfl (by kernel_rfl) ?_
 intro K hK
 go_simp
 refine (WInt_N (Nb (Nb N b2) b3) p _ a.ch.id _ HX.out (by first | omega | (simp only [List.length_append, be_length]; omega))).mono ?_
 rintro e u1 ⟨rfl, hwu1, hgu1⟩
 have HX := Lib.hid hwu1
 have HS := Lib.hid (HS.out.trans_same hgu1)
 refine hK.out _ _ HS.out (fun _ => ?_)
 clear hK K hwu1 hgu1
 try simp only [Act.put, sA, sB, sC]
 refine h_one 6 (by kernel_rfl) rfl (by kernel_rfl) ?_
 intro K hK
 go_simp
 refine (WInt_N (Nb (Nb N b2) b3) p _ a.ch.src _ HX.out (by first | omega | (simp only [List.length_append, be_length]; omega))).mono ?_
 rintro e u2 ⟨rfl, hwu2, hgu2⟩
 have HX := Lib.hid hwu2
 have HS := Lib.hid (HS.out.trans_same hgu2)
 refine hK.out _ _ HS.out (fun _ => ?_)
 clear hK K hwu2 hgu2
 try simp only [Act.put, sA, sB, sC]
 refine h_one 9 (by kernel_rfl) rfl (by kernel_rfl) ?_
 intro K hK
 go_simp
 refine (WInt_N (Nb (Nb N b2) b3) p _ a.ch.dst _ HX.out (by first | omega | (simp only [List.length_append, be_length]; omega))).mono ?_
 rintro e u3 ⟨rfl, hwu3, hgu3⟩
 have HX := Lib.hid hwu3
 have HS := Lib.hid (HS.out.trans_same hgu3)
 refine hK.out _ _ HS.out (fun _ => ?_)
 clear hK K hwu3 hgu3
 try simp only [Act.put, sA, sB, sC]
 refine h_one 12 (by kernel_rfl) rfl (by kernel_rfl) ?_
 intro K hK
 go_simp
 refine (WInt_N (Nb (Nb N b2) b3) p _ a.ch.cap _ HX.out (by first | omega | (simp only [List.length_append, be_length]; omega))).mono ?_
 rintro e u4 ⟨rfl, hwu4, hgu4⟩
 have HX := Lib.hid hwu4
 have HS := Lib.hid (HS.out.trans_same hgu4)
 refine hK.out _ _ HS.out (fun _ => ?_)
 clear hK K hwu4 hgu4
 try simp only [Act.put, sA, sB, sC]
 refine h_one 15 (by kernel_rfl) rfl (by kernel_rfl) ?_
 intro K hK
 go_simp
 refine (WInt_N (Nb (Nb N b2) b3) p _ a.ch.size _ HX.out (by first | omega | (simp only [List.length_append, be_length]; omega))).mono ?_
 rintro e u5 ⟨rfl, hwu5, hgu5⟩
 have HX := Lib.hid hwu5
 have HS := Lib.hid (HS.out.trans_same hgu5)
 refine hK.out _ _ HS.out (fun _ => ?_)
 clear hK K hwu5 hgu5
 try simp only [Act.put, sA, sB, sC]
 refine wpAnyH_done (by kernel_rfl) ?_ _
 obtain ⟨g, hg⟩ : ∃ g, f ++ be (u64 a.ch.id) 8 ++ be (u64 a.ch.src) 8 ++ be (u64 a.ch.dst) 8 ++ be (u64 a.ch.cap) 8 ++ be (u64 a.ch.size) 8 = g := ⟨_, rfl⟩
 have hgl : g.length = f.length + 40 := by rw [← hg]; simp only [List.length_append, be_length]
 rw [hg] at HX HFm
 clear hg
 have q1 := HS.out.cell_some q0 (fun h => h (HNN.out _ hbN))
 have m6 := HS.out.cell_some m5 (fun h => h (.inl (.inr rfl)))
 have hkI : ∀ b, I b → ¬ Nt (Nb (Nb N b2) b3) b := fun b hb h => h (HNN.out _ (hI b hb))
 have HL := Lib.hid (listMsg (msgV I) I (Nb (Nb N b2) b3) (fun S W W' a vs hg hn h => msgV.keep h hg hn) msgV_one wBy p bx A a.msgs c g u5 (fun b hb => HNN.out _ (hI b hb)) (HNN.out _ hbN)
   ((HR.out.keep HG0.out (fun _ _ e => e) (fun a vs _ h => msgV.keep h HG0.out (fun _ _ e => e))).keep HS.out hkI (fun a vs _ h => msgV.keep h HS.out hkI)) (putsMsg I _ _ p bx) hc hcm hml q1 HX.out (by
     have e : (wMs a.msgs).length = 8 + (a.msgs.flatMap wBy).length := by unfold wMs; rw [List.length_append, wInt_len8]
     omega))
 have hEq : Hid (g ++ (wInt (a.msgs.length : Int) ++ a.msgs.flatMap wBy) = f ++ wQu a) := Lib.hid (by rw [← HFm.out]; rfl)
 clear HFm
 go_wp2_with fail
 refine HL.out.mono ?_
 rintro e u ⟨rfl, hw, hg⟩
 rw [hEq.out] at hw
 have HXn := Lib.hid (hw.less (N := N) HNN.out)
 have HSn := Lib.hid (HG0.out.non_then (Nt.less (N := N) (HS.out.trans_same hg) HNN.out))
 clear hw hg
 go_wp2_with fail
 go_end0
 exact ⟨rfl, HXn.out, HSn.out⟩
end
section
open Go.RowKit
theorem hTwo {P : Program} {md : Region.Mode} {ops : Array Oper} {Q : Exit → Act → World → Prop} {S : World → Prop} {fuel : Nat} {listed : Array Bool} {a : Act} {w : World} (i j : Nat) {oi oj : Oper} (hr : Region.ready md ops listed = [i, j]) (hi : ops[i]? = some oi) (hj : ops[j]? = some oj) (hwi : Region.wanted oi (yielded ops a.tmps) = true) (hwj : Region.wanted oj (yielded ops a.tmps) = true)
  (h1 : ∀ K : Act → World → Prop, Shut (∀ a w, S w → (S w → wpAnyH P md ops Q S fuel (listed.setIfInBounds i true) a w) → K a w) → Oper.wp P oi a w K Q)
  (h2 : ∀ K : Act → World → Prop, Shut (∀ a w, S w → (S w → wpAnyH P md ops Q S fuel (listed.setIfInBounds j true) a w) → K a w) → Oper.wp P oj a w K Q) : wpAnyH P md ops Q S (fuel + 1) listed a w :=
 wpAnyH_ready hr (by simp) (AllReadyH.cons hi (fun K hK => by rw [if_pos hwi]; exact h1 K hK) (AllReadyH.cons hj (fun K hK => by rw [if_pos hwj]; exact h2 K hK) AllReadyH.nil))
theorem IsWN.cellN {N : Nat → Prop} {p : Nat} {l : List UInt8} {er : Int} {w : World} (h : IsWN N w p l er) (b i : Nat) (v : Value) (hb : N b) : IsWN N (w.setCell ⟨b, i, none⟩ v) p l er := by
 obtain ⟨h1, h2, v0, h3, h4, h5⟩ := h
 refine ⟨fun k hk => by simpa [World.setCell] using h1 k hk, h2, v0, ?_, ?_, h5⟩
 ·exact ((setAt w b i v).block p (Array.getElem?_eq_some_iff.1 h3).1 (fun e => h2 (by have e : p = b := e; rw [e]; exact hb))).trans h3
 ·exact ownsRow_setCell_other h4 (a := ⟨b, i, none⟩) (by intro e; exact h5 b e hb) v
set_option maxRecDepth 100000 in
theorem print_ok (I : Nat → Prop) (s : Sta) (vb vd : Value) (w : World) (h : StaV I w s vb vd) (hI : ∀ b, I b → b < w.heap.size) (hm : mayS s = true) (hb : StBd s) :
  Calls Tryz.prog 32 #[.agg #[.int .i64 s.frames, vb, vd]] w fun e w' => ∃ A c, e = .returned (.tuple #[.slice A (formS s).length c, .int .i64 0]) ∧ (formS s).length ≤ c ∧ c ≤ maxLen ∧ Own w.heap.size w' A (formS s) ∧ Chg Non w w' := by
 have HM := Lib.hid (fun W hg => smay_ok I s vb vd W (h.non (w' := W) hg))
 have hlen := (formS_len hb).1
 have hfe : formS s = be (u64 s.frames) 8 ++ ((wInt (s.parts.length : Int) ++ s.parts.flatMap wPt) ++ (wInt (s.queues.length : Int) ++ s.queues.flatMap wQu)) := by unfold formS; simp only [wInt, List.append_assoc]
 have hlp : (s.parts.flatMap wPt).length + (s.queues.flatMap wQu).length + 24 ≤ 4684 := by rw [hfe] at hlen; simp only [List.length_append, be_length, wInt_len8] at hlen; omega
 obtain ⟨⟨A, c, rfl, hc, hcm, hrp⟩, ⟨A2, c2, rfl, hc2, hcm2, hrq⟩⟩ := h
 have HRP := Lib.hid hrp
 have HRQ := Lib.hid hrq
 have HFE := Lib.hid hfe
 have HLN := Lib.hid hlen
 have HBd := Lib.hid hb
 rw [hm] at HM
 clear hrp hrq hfe hlen hb hm
 go_enter Tryz.func32, Tryz.ntmps32
 go_wp2_with fail
 refine (HM.out _ ((Chg.refl Non w).alloc _)).mono ?_
 rintro e v0 ⟨rfl, hg0⟩
 have HB1 := Lib.hid (blk_keep (blk_new w (.cells #[.int .i64 s.frames, .slice A s.parts.length c, .slice A2 s.queues.length c2] 25)) hg0 (fun e => e))
 have HG0 := Lib.hid (((Chg.refl Non w).alloc _).then_non hg0)
 clear hg0 HM
 have b0 := blk_cell HB1.out 0 (v := .int .i64 s.frames) rfl
 go_wp2_with fail
 obtain ⟨V, hV⟩ : ∃ V, V = v0.drew := ⟨_, rfl⟩
 have HGV : Hid (Chg Non w V) := Lib.hid (by rw [hV]; exact HG0.out.drew)
 obtain ⟨b1, hb1⟩ : ∃ b, w.heap.size = b := ⟨_, rfl⟩
 have HBV : Hid (V.heap[b1]? = some (.cells #[.int .i64 s.frames, .slice A s.parts.length c, .slice A2 s.queues.length c2] 25 (0, 0))) := Lib.hid (by rw [hV, ← hb1]; exact HB1.out)
 have c0 := blk_cell HBV.out 0 (v := .int .i64 s.frames) rfl
 have c1 := blk_cell HBV.out 1 (v := .slice A s.parts.length c) rfl
 have c2' := blk_cell HBV.out 2 (v := .slice A2 s.queues.length c2) rfl
 have hltB : b1 < V.heap.size := lt_of_cell c0
 obtain ⟨B, hB⟩ : ∃ B, V.heap.size = B := ⟨_, rfl⟩
 have hN : Hid (∀ k, Upto B k → k < V.heap.size) := Lib.hid (fun k hk => by have hk : k < B := hk; omega)
 have hBe : Hid (V.heap.size = B) := Lib.hid hB
 clear hB
 clear b0
 rw [hb1]
 apply wp_cutB (α := Nat × Nat) (f := fun y x => (((((x.put (some 8) (.pointer (some ⟨y.2, 0, none⟩))).put (some 9) (.pointer (some ⟨b1, 0, none⟩))).put (some 10) (.int .i64 s.frames)).put (some 11) (.pointer (some ⟨y.2, 0, none⟩))).put (some 4) (.pointer (some ⟨y.1, 0, none⟩))))
  (R := fun y v => v.heap[y.1]? = some (.cells #[.pointer (some ⟨y.2, 0, none⟩)] 126 (0, 0)) ∧ IsWN (Nb (Upto B) y.1) v y.2 (be (u64 s.frames) 8) 0 ∧ Chg Non V v ∧ B ≤ y.1)
 ·have HV : Hid (Chg Non V V) := Lib.hid (Chg.refl _ _)
  refine wp_region_held_drew (S := Chg Non V) (by kernel_rfl) (by rw [hV]; exact Chg.refl _ _) (fun hHeld => ?_)
  clear hHeld
  rw [← hV]
  clear hV
  refine hp 1 9 (.pointer (some ⟨b1, 0, none⟩)) rfl HV.out ?_ (hQ := fun _ _ _ h => absurd h.1 (by simp))
  refine hp 2 10 (.int .i64 s.frames) rfl HV.out ?_ (he := (fun W hW => by have hc := hW.cell_some c0 (fun e => e); go_simp)) (hQ := fun _ _ _ h => absurd h.1 (by simp))
  refine hTwo 0 4 (by kernel_rfl) rfl rfl (by kernel_rfl) (by kernel_rfl) ?_ ?_
  ·intro K hK
   go_simp
   refine (NewWriter_N (Upto B) V hN.out).mono ?_
   rintro e u1 ⟨rfl, hw, hg⟩
   refine hK.out _ _ (HV.out.then_non hg) (fun _ => ?_)
   clear hK K
   try simp only [Act.put, sA, sB, sC]
   obtain ⟨pw, hpw⟩ : ∃ k, V.heap.size = k := ⟨_, rfl⟩
   rw [hpw] at hw ⊢
   have HW := Lib.hid hw
   have HV := Lib.hid (HV.out.then_non hg)
   clear hw hg hpw
   refine hTwo 3 4 (by kernel_rfl) rfl rfl (by kernel_rfl) (by kernel_rfl) ?_ ?_
   ·intro K hK
    go_simp
    refine (WInt_N (Upto B) pw [] s.frames u1 HW.out (by simp)).mono ?_
    rintro e u2 ⟨rfl, hw, hg⟩
    have HV := Lib.hid (HV.out.then_new hg (fun x e => by have e : ¬ x < B := e; have := hBe.out; omega))
    refine hK.out _ _ HV.out (fun _ => ?_)
    clear hK K
    try simp only [Act.put, sA, sB, sC]
    have HW := Lib.hid hw
    clear hw hg
    refine h_one 4 (by kernel_rfl) rfl (by kernel_rfl) ?_
    intro K hK
    go_simp
    refine hK.out _ _ (HV.out.alloc _) (fun _ => ?_)
    clear hK K
    try simp only [Act.put, sA, sB, sC]
    have HB := Lib.hid (blk_new u2 (.cells #[.pointer none] 126))
    have HW := Lib.hid (HW.out.box (.cells #[.pointer none] 126))
    have hle : B ≤ u2.heap.size := by have := HV.out.size; have := hBe.out; omega
    have HV := Lib.hid (HV.out.alloc (.cells #[.pointer none] 126))
    obtain ⟨W8, hW8⟩ : ∃ X, u2.alloc (.cells #[.pointer none] 126) = X := ⟨_, rfl⟩
    have hlt8 : u2.heap.size < W8.heap.size := by rw [← hW8]; simp
    rw [hW8] at HB HV HW ⊢
    clear hW8
    obtain ⟨bx, hbx⟩ : ∃ k, u2.heap.size = k := ⟨_, rfl⟩
    rw [hbx] at HB hle hlt8 HW ⊢
    clear hbx
    clear hlt8
    refine h_one 5 (by kernel_rfl) rfl (by kernel_rfl) ?_
    intro K hK
    go_simp
    have hc8 := blk_cell HB.out 0 (v := .pointer none) rfl
    have hf8 : W8.frozen? ⟨bx, 0, none⟩ = false := frozen_of_row _ _ _ _ _ HB.out
    go_simp
    have hgs := setAt W8 bx 0 (.pointer (some ⟨pw, 0, none⟩))
    refine hK.out _ _ (HV.out.then_new hgs (fun x e => by have e : x = bx := e; have := hBe.out; omega)) (fun _ => ?_)
    clear hK K
    try simp only [Act.put, sA, sB, sC]
    refine wpAnyH_done (by kernel_rfl) ?_ _
    refine ⟨rfl, (bx, pw), by kernel_rfl, ?_, ?_, HV.out.then_new hgs (fun x e => by have e : x = bx := e; have := hBe.out; omega), hle⟩
    ·rw [heap_setCell_same _ _ _ _ _ _ HB.out]; rfl
    ·exact HW.out.cellN bx 0 _ (.inr rfl)
   ·intro K hK
    go_simp
    refine hK.out _ _ (HV.out.alloc _) (fun _ => ?_)
    clear hK K
    try simp only [Act.put, sA, sB, sC]
    have HB := Lib.hid (blk_new u1 (.cells #[.pointer none] 126))
    have HW := Lib.hid (HW.out.box (.cells #[.pointer none] 126))
    have hle : B ≤ u1.heap.size := by have := HV.out.size; have := hBe.out; omega
    have HV := Lib.hid (HV.out.alloc (.cells #[.pointer none] 126))
    obtain ⟨W8, hW8⟩ : ∃ X, u1.alloc (.cells #[.pointer none] 126) = X := ⟨_, rfl⟩
    have hlt8 : u1.heap.size < W8.heap.size := by rw [← hW8]; simp
    rw [hW8] at HB HV HW ⊢
    clear hW8
    obtain ⟨bx, hbx⟩ : ∃ k, u1.heap.size = k := ⟨_, rfl⟩
    rw [hbx] at HB hle hlt8 HW ⊢
    clear hbx
    clear hlt8
    refine h_one 3 (by kernel_rfl) rfl (by kernel_rfl) ?_
    intro K hK
    go_simp
    refine (WInt_N (Nb (Upto B) bx) pw [] s.frames W8 HW.out (by simp)).mono ?_
    rintro e u2 ⟨rfl, hw, hg⟩
    have HV := Lib.hid (HV.out.then_new hg (fun x e => by have e : ¬ x < B := fun h => e (.inl h); have := hBe.out; omega))
    have HB := Lib.hid (blk_keep HB.out hg (fun h => h (.inr rfl)))
    refine hK.out _ _ HV.out (fun _ => ?_)
    clear hK K
    try simp only [Act.put, sA, sB, sC]
    have HW := Lib.hid hw
    clear hw hg
    refine h_one 5 (by kernel_rfl) rfl (by kernel_rfl) ?_
    intro K hK
    go_simp
    have hc8 := blk_cell HB.out 0 (v := .pointer none) rfl
    have hf8 : u2.frozen? ⟨bx, 0, none⟩ = false := frozen_of_row _ _ _ _ _ HB.out
    go_simp
    have hgs := setAt u2 bx 0 (.pointer (some ⟨pw, 0, none⟩))
    refine hK.out _ _ (HV.out.then_new hgs (fun x e => by have e : x = bx := e; have := hBe.out; omega)) (fun _ => ?_)
    clear hK K
    try simp only [Act.put, sA, sB, sC]
    refine wpAnyH_done (by kernel_rfl) ?_ _
    refine ⟨rfl, (bx, pw), by kernel_rfl, ?_, ?_, HV.out.then_new hgs (fun x e => by have e : x = bx := e; have := hBe.out; omega), hle⟩
    ·rw [heap_setCell_same _ _ _ _ _ _ HB.out]; rfl
    ·exact HW.out.cellN bx 0 _ (.inr rfl)
  ·intro K hK
   go_simp
   refine hK.out _ _ (HV.out.alloc _) (fun _ => ?_)
   clear hK K
   try simp only [Act.put, sA, sB, sC]
   have HB := Lib.hid (blk_new V (.cells #[.pointer none] 126))
   have hle : B ≤ V.heap.size := by have := HV.out.size; have := hBe.out; omega
   have HV := Lib.hid (HV.out.alloc (.cells #[.pointer none] 126))
   obtain ⟨W8, hW8⟩ : ∃ X, V.alloc (.cells #[.pointer none] 126) = X := ⟨_, rfl⟩
   have hlt8 : V.heap.size < W8.heap.size := by rw [← hW8]; simp
   rw [hW8] at HB HV ⊢
   clear hW8
   obtain ⟨bx, hbx⟩ : ∃ k, V.heap.size = k := ⟨_, rfl⟩
   rw [hbx] at HB hle hlt8 ⊢
   clear hbx
   have hNb : ∀ k, Nb (Upto B) bx k → k < W8.heap.size := fun k hk => by rcases hk with h | h; (have h : k < B := h; have := hBe.out; omega); (have h : k = bx := h; omega)
   clear hlt8
   refine h_one 0 (by kernel_rfl) rfl (by kernel_rfl) ?_
   intro K hK
   go_simp
   refine (NewWriter_N (Nb (Upto B) bx) W8 hNb).mono ?_
   rintro e u1 ⟨rfl, hw, hg⟩
   refine hK.out _ _ (HV.out.then_non hg) (fun _ => ?_)
   clear hK K
   try simp only [Act.put, sA, sB, sC]
   have HB := Lib.hid (blk_keep HB.out hg (fun e => e))
   obtain ⟨pw, hpw⟩ : ∃ k, W8.heap.size = k := ⟨_, rfl⟩
   rw [hpw] at hw ⊢
   have HW := Lib.hid hw
   have HV := Lib.hid (HV.out.then_non hg)
   clear hw hg hpw
   refine h_one 3 (by kernel_rfl) rfl (by kernel_rfl) ?_
   intro K hK
   go_simp
   refine (WInt_N (Nb (Upto B) bx) pw [] s.frames u1 HW.out (by simp)).mono ?_
   rintro e u2 ⟨rfl, hw, hg⟩
   have HV := Lib.hid (HV.out.then_new hg (fun x e => by have e : ¬ x < B := fun h => e (.inl h); have := hBe.out; omega))
   have HB := Lib.hid (blk_keep HB.out hg (fun h => h (.inr rfl)))
   refine hK.out _ _ HV.out (fun _ => ?_)
   clear hK K
   try simp only [Act.put, sA, sB, sC]
   have HW := Lib.hid hw
   clear hw hg
   refine h_one 5 (by kernel_rfl) rfl (by kernel_rfl) ?_
   intro K hK
   go_simp
   have hc8 := blk_cell HB.out 0 (v := .pointer none) rfl
   have hf8 : u2.frozen? ⟨bx, 0, none⟩ = false := frozen_of_row _ _ _ _ _ HB.out
   go_simp
   have hgs := setAt u2 bx 0 (.pointer (some ⟨pw, 0, none⟩))
   refine hK.out _ _ (HV.out.then_new hgs (fun x e => by have e : x = bx := e; have := hBe.out; omega)) (fun _ => ?_)
   clear hK K
   try simp only [Act.put, sA, sB, sC]
   refine wpAnyH_done (by kernel_rfl) ?_ _
   refine ⟨rfl, (bx, pw), by kernel_rfl, ?_, ?_, HV.out.then_new hgs (fun x e => by have e : x = bx := e; have := hBe.out; omega), hle⟩
   ·rw [heap_setCell_same _ _ _ _ _ _ HB.out]; rfl
   ·exact HW.out.cellN bx 0 _ (.inr rfl)
 ·clear hV
  rintro ⟨bx, pw⟩ v ⟨hbx, hw, hg, hge⟩
  have hwB : w.heap.size ≤ B := by have := HGV.out.size; have := hBe.out; omega
  have hIN : ∀ b, I b → Nb (Upto B) bx b := fun b hb => .inl (show b < B by have := hI b hb; omega)
  have hkN : ∀ b, I b → ¬ Nt (Nb (Upto B) bx) b := fun b hb h => h (hIN b hb)
  have hb1N : Nb (Upto B) bx b1 := .inl (show b1 < B by have := hBe.out; omega)
  have q0 := blk_cell hbx 0 (v := .pointer (some ⟨pw, 0, none⟩)) rfl
  have d1 := hg.cell_some c1 (fun e => e)
  have d2 := hg.cell_some c2' (fun e => e)
  have hGv := HGV.out.then_non hg
  have hnb : s.parts.length ≤ 1000 := by have := HBd.out.np; omega
  have HL1 := Lib.hid (listPart (ptV I) I (Nb (Upto B) bx) (fun S W W' a vs hg hn h => ptV.keep h hg hn) ptV_one wPt pw bx A s.parts c _ v hIN (.inr rfl) (HRP.out.keep hGv (fun _ _ e => e) (fun a vs _ h => ptV.keep h hGv (fun _ _ e => e)))
    (putsPart I _ hIN _ pw bx (.inr rfl)) hc hcm hnb q0 hw (by rw [be_length]; omega))
  have HRQ2 := Lib.hid (HRQ.out.keep hGv (fun _ _ e => e) (fun a vs _ h => quV.keep h hGv (fun _ _ e => e)))
  have HGvB : Hid (Chg Non V v) := Lib.hid hg
  have hgl : (be (u64 s.frames) 8 ++ (wInt (s.parts.length : Int) ++ s.parts.flatMap wPt)).length = 16 + (s.parts.flatMap wPt).length := by simp only [List.length_append, be_length, wInt_len8]; omega
  have HFE2 : Hid (be (u64 s.frames) 8 ++ (wInt (s.parts.length : Int) ++ s.parts.flatMap wPt) ++ (wInt (s.queues.length : Int) ++ s.queues.flatMap wQu) = formS s) := Lib.hid (by rw [HFE.out, List.append_assoc])
  clear hw HRP HRQ hg HFE
  obtain ⟨g, hgg⟩ : ∃ g, be (u64 s.frames) 8 ++ (wInt (s.parts.length : Int) ++ s.parts.flatMap wPt) = g := ⟨_, rfl⟩
  rw [hgg] at HL1 hgl HFE2
  clear hgg
  simp only [Act.put, sA, sB, sC]
  go_wp2_with fail
  refine HL1.out.mono ?_
  rintro e u1 ⟨rfl, hw1, hg1⟩
  have q1 := hg1.cell_some q0 (fun h => h (.inr rfl))
  have d3 := hg1.cell_some d2 (fun h => h hb1N)
  have hnq : s.queues.length ≤ 1000 := by have := HBd.out.nq; omega
  have HL2 := Lib.hid (listQueue (quV I) I (Nb (Upto B) bx) (fun S W W' a vs hg hn h => quV.keep h hg hn) quV_one wQu pw bx A2 s.queues c2 g u1 hIN (.inr rfl) (HRQ2.out.keep hg1 hkN (fun a vs _ h => quV.keep h hg1 hkN))
    (putsQueue I _ hIN _ pw bx (.inr rfl) (fun q hq => by have := (HBd.out.qs q hq).2.1; omega)) hc2 hcm2 hnq q1 hw1 (by omega))
  rw [HFE2.out] at HL2
  have HG1 := Lib.hid hg1
  clear hw1 hg1 HRQ2
  go_wp2_with fail
  refine HL2.out.mono ?_
  rintro e u2 ⟨rfl, hw2, hg2⟩
  have q2 := hg2.cell_some q1 (fun h => h (.inr rfl))
  have HD := Lib.hid (WDone_N _ pw (formS s) u2 hw2 (by have := HLN.out; omega))
  have HG2 : Hid (Chg Non w u2) := Lib.hid (HGV.out.then_non ((HGvB.out.then_new (HG1.out.trans_same hg2) (fun x e => by have e : ¬ x < B := fun h => e (.inl h); have := hBe.out; omega))))
  clear hw2 hg2
  go_wp2_with fail
  refine HD.out.mono ?_
  rintro e u3 ⟨A3, c3, rfl, h1, h2, h3, h4⟩
  have HO := Lib.hid (h3.mono HG2.out.size)
  have HG3 := Lib.hid (HG2.out.then_non h4)
  clear h3 h4
  go_wp2_with fail
  go_ret2
  exact ⟨A3, c3, rfl, h1, h2, HO.out, HG3.out⟩
end
end Go.Proofs.YtkgnlobabknkcaaGreat
