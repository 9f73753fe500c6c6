/- BootNil, part 7 of 14: contracts of the functions that it reaches, and the laws that they need, merged and shortened (from my texts XMfP, XCoL, XSIs, XCoP, XMnA, XBnL, XDiskW, XDiskS, XDiskP, XDiskQ, XDiskO, XDiskF, XRec, XRec2). -/
import Derived.Test.YtajkajgifigmbaaGreatMgBootNilA
import Derived.Test.YtajkajgifigmbaaGreatMgBootNilB
import Derived.Test.YtajkajgifigmbaaGreatMgBootNilC
import Derived.Test.YtajkajgifigmbaaGreatMgBootNilF
namespace Go.Proofs.YtajkajgifigmbaaGreat
set_option linter.unusedVariables false
set_option linter.unusedSimpArgs false
set_option maxHeartbeats 8000000
set_option maxRecDepth 100000
section
open Go.RowKit
def wWin (a : Win) : List UInt8 := wInt a.len ++ wInt a.part
def wPn (a : Pn) : List UInt8 := wInt a.id ++ (wInt a.base ++ (wInt a.size ++ (flagB a.keep :: wBy a.img)))
def wCh (a : Ch) : List UInt8 := wInt a.id ++ (wInt a.src ++ (wInt a.dst ++ (wInt a.cap ++ wInt a.size)))
def formC (c : Cfg) : List UInt8 := wInt (c.ws.length : Int) ++ (c.ws.flatMap wWin ++ (wInt (c.ps.length : Int) ++ (c.ps.flatMap wPn ++ (wInt (c.cs.length : Int) ++ c.cs.flatMap wCh))))
def canC (c : Cfg) : Bool := decide (c.ws.length ≤ 12) && decide (c.ps.length ≤ 6) && decide (c.cs.length ≤ 8) && c.ps.all fun p => decide (p.img.length ≤ 512)
structure Mf where
 ver : Int
 prev : List UInt8
 trial : Int
 cfg : Cfg
 tag : List UInt8
def headM (m : Mf) : List UInt8 := wInt m.ver ++ (m.prev ++ (wInt m.trial ++ wBy (formC m.cfg)))
def formM (m : Mf) : List UInt8 := headM m ++ m.tag
def canM (m : Mf) : Bool := decide (1 ≤ m.ver) && decide (m.ver ≤ 1099511627776) && decide (1 ≤ m.trial) && decide (m.trial ≤ 8) && canC m.cfg
structure CfgBd (c : Cfg) : Prop where
 ws : ∀ a ∈ c.ws, I64 a.len ∧ I64 a.part
 ps : ∀ a ∈ c.ps, I64 a.id ∧ I64 a.base ∧ I64 a.size
 cs : ∀ a ∈ c.cs, a.Bd
theorem canC_bd {c : Cfg} (h : canC c = true) : c.ws.length ≤ 12 ∧ c.ps.length ≤ 6 ∧ c.cs.length ≤ 8 ∧ ∀ p ∈ c.ps, p.img.length ≤ 512 := by
 unfold canC at h
 simp only [Bool.and_eq_true, decide_eq_true_eq, List.all_eq_true] at h
 exact ⟨h.1.1.1, h.1.1.2, h.1.2, h.2⟩
theorem wWin_len (a : Win) : (wWin a).length = 16 := by unfold wWin; rw [List.length_append, wInt_len, wInt_len]
theorem wPn_len (a : Pn) : (wPn a).length = 29 + a.img.length := by
 unfold wPn
 simp only [List.length_append, List.length_cons, wInt_len, wBy_len]
 omega
theorem wCh_len (a : Ch) : (wCh a).length = 40 := by unfold wCh; simp only [List.length_append, wInt_len]
theorem formC_len {c : Cfg} (hc : canC c = true) : (formC c).length ≤ 3782 ∧ 24 ≤ (formC c).length := by
 obtain ⟨h1, h2, h3, h4⟩ := canC_bd hc
 have e1 := flat_le (w := wWin) (k := 16) c.ws (fun a _ => by rw [wWin_len]; omega)
 have e2 := flat_le (w := wPn) (k := 541) c.ps (fun a ha => by rw [wPn_len]; have := h4 a ha; omega)
 have e3 := flat_le (w := wCh) (k := 40) c.cs (fun a _ => by rw [wCh_len]; omega)
 unfold formC
 simp only [List.length_append, wInt_len]
 omega
structure MfBd (m : Mf) : Prop where
 pl : m.prev.length = 32
 tl : m.tag.length = 32
 ver : I64 m.ver
 trial : I64 m.trial
 cfg : CfgBd m.cfg
theorem canM_cfg {m : Mf} (h : canM m = true) : canC m.cfg = true := by
 unfold canM at h
 simp only [Bool.and_eq_true] at h
 exact h.2
theorem formM_len {m : Mf} (hb : MfBd m) (h : canM m = true) : (formM m).length ≤ 3866 ∧ 108 ≤ (formM m).length := by
 have := formC_len (canM_cfg h)
 have h1 := hb.pl
 have h2 := hb.tl
 unfold formM headM
 simp only [List.length_append, wInt_len, wBy_len]
 omega
end
section
open Go.RowKit
theorem listWin {α : Type} (R : World → α → List Value → Prop) (I N : Nat → Prop) (hk : ∀ (S : Nat → Prop) (W W' : World) (a : α) (vs : List Value), Chg S W W' → (∀ b, I b → ¬ S b) → R W a vs → R W' a vs)
  (ho : ∀ W a vs, R W a vs → ∀ u ∈ vs, u.oneCell' = true) (wt : α → List UInt8) (p bx : Nat) (A : Option Addr) (l : List α) (c : Nat) (f : List UInt8) (w : World) (hI : ∀ b, I b → N b) (hbN : N bx)
  (hr : RdL R I 2 w A l) (hf : Puts R aggV l wt N p bx 239) (hc : l.length ≤ c) (hcm : c ≤ maxLen) (h1000 : l.length ≤ 1000) (hbx : w.cell? ⟨bx, 0, none⟩ = some (.pointer (some ⟨p, 0, none⟩)))
  (hW : IsWN N w p f 0) (hroom : f.length + 8 + (l.flatMap wt).length ≤ 65536) :
  Calls Tryz.prog 238 #[.pointer (some ⟨p, 0, none⟩), .slice A l.length c, .func (.func 239) #[] #[.pointer (some ⟨bx, 0, none⟩)]] w fun e w' =>
   e = .returned (.tuple #[]) ∧ IsWN N w' p (f ++ (wInt (l.length : Int) ++ l.flatMap wt)) 0 ∧ Chg (Nt N) w w' := by
 unfold maxLen at hcm
 have HW := Lh (WInt_N N p f (l.length : Int) w hW (by omega))
 have HR := Lh hr
 have HF := Lh hf
 have HRM := Lh hroom
 have HBX := Lh hbx
 have HE : Hid (be (u64 (l.length : Int)) 8 = wInt (l.length : Int)) := Lh rfl
 clear hr hf hroom hW hbx
 go_enter Tryz.func238, Tryz.ntmps238
 go_wp2_with fail
 refine HW.out.mono ?_
 rintro e w1 ⟨rfl, hW1, hg1⟩
 rw [HE.out] at hW1
 have HW1 := Lh hW1
 have HG1 := Lh hg1
 clear hW1 hg1
 go_wp2_with fail
 go_loopw [14] (fun iv wr => ∃ k : Nat, k ≤ l.length ∧ iv = .int .i64 k ∧ Hid (IsWN N wr p (f ++ (wInt (l.length : Int) ++ (l.take k).flatMap wt)) 0) ∧ Hid (Chg (Nt N) w wr)) (fun iv _ => l.length - (intOf iv).toNat)
 case atStart => exact ⟨0, Nat.zero_le _, rfl, Lh (by simpa using HW1.out), HG1⟩
 case round =>
  obtain ⟨k, hk2, rfl, HX, HG⟩ := hrel
  have hnN : ∀ b, I b → ¬ Nt N b := fun b hb h => h (hI b hb)
  by_cases hlt : k < l.length
  ·obtain ⟨a, ha⟩ : ∃ a, l[k]? = some a := ⟨_, List.getElem?_eq_getElem hlt⟩
   obtain ⟨b, o, vs, rfl, hIb, hlen, hcell0, hR⟩ := HR.out k a ha
   have hcell := range_keepS hcell0 HG.out (hnN b hIb)
   have hR2 := hk _ _ _ _ _ HG.out hnN hR
   have hbx := HG.out.cell_some HBX.out (fun h => h hbN)
   have hbl := lt_of_cell hbx
   have hroom2 : (f ++ (wInt (l.length : Int) ++ (l.take k).flatMap wt)).length + (wt a).length ≤ 65536 := by
    have h1 := flat_take_le wt l (k + 1)
    rw [flat_snoc ha, List.length_append] at h1
    have h2 := HRM.out
    rw [List.length_append, List.length_append, wInt_len8]
    omega
   have HK := Lh (fun W (hg : Chg Non wr W) => HF.out W a vs _ (List.mem_of_getElem? ha) (hk _ _ _ _ _ hg (fun _ _ e => e) hR2) (isWN_chg HX.out hg) (hg.cell_some hbx (fun e => e)) hroom2)
   have hltd : decide ((k : Int) < (l.length : Int)) = true := by simpa using hlt
   have HS := Lh (flat_snoc (wt := wt) ha)
   have HO1 := Lh (all_one (ho _ _ _ hR))
   have HL := Lh hlen
   clear ha hR hR2 hcell0 hroom2 hbx
   have HC := Lh hcell
   clear hcell hlen
   go_wp2_with (first
     | (refine sel (some 17) (.load 211 (.tmp 16)) ?_; refine wpList_load_mid rfl 211 (.tmp 16) rfl b (o + k * 2) rfl vs _ HC.out Tryz.underlying211 rfl (by rw [HL.out]; kernel_rfl) ?_)
     | (refine sel none (.store 211 (.tmp 7) (.tmp 17)) ?_
        refine wpList_store_rowA rfl 211 (.tmp 7) (.tmp 17) rfl wr.heap.size vs.toArray rfl rfl 211 _ (blk_new _ _) (by rw [List.size_toArray, HL.out]; kernel_rfl) (sz_of HL.out rfl) HO1.out ?_
        intro W1 hgW1 hbW1)
     | (refine sel (some 19) (.load 211 (.tmp 7)) ?_; refine wpList_load_row rfl 211 (.tmp 7) rfl wr.heap.size rfl 211 vs.toArray (0, 0) _ hbW1 Tryz.underlying211 rfl (by rw [List.size_toArray, HL.out]; kernel_rfl) ?_))
   have hgw : Chg Non wr W1 := ((Chg.refl Non wr).alloc _).then_new hgW1 (fun x e => by omega)
   refine (HK.out W1 hgw).mono ?_
   rintro e u ⟨rfl, hWu, hgu⟩
   have HWu := Lh (show IsWN N u p (f ++ (wInt (l.length : Int) ++ (l.take (k + 1)).flatMap wt)) 0 by rw [HS.out]; simpa [List.append_assoc] using hWu)
   have HGu := Lh (HG.out.trans_same (hgw.non_then hgu))
   clear hWu hgu hgw hgW1 hbW1
   go_wp2_with fail
   exact ⟨⟨k + 1, by omega, by simp, HWu, HGu⟩, by simp [intOf]; omega⟩
  ·obtain rfl : k = l.length := by omega
   have hltd : decide ((l.length : Int) < (l.length : Int)) = false := by simp
   have HXe := Lh (show IsWN N wr p (f ++ (wInt (l.length : Int) ++ l.flatMap wt)) 0 by have := HX.out; rwa [List.take_length] at this)
   clear HX
   go_wp2_with fail
   go_end0
   exact ⟨rfl, HXe.out, HG.out⟩
theorem listPn {α : Type} (R : World → α → List Value → Prop) (I N : Nat → Prop) (hk : ∀ (S : Nat → Prop) (W W' : World) (a : α) (vs : List Value), Chg S W W' → (∀ b, I b → ¬ S b) → R W a vs → R W' a vs)
  (ho : ∀ W a vs, R W a vs → ∀ u ∈ vs, u.oneCell' = true) (wt : α → List UInt8) (p bx : Nat) (A : Option Addr) (l : List α) (c : Nat) (f : List UInt8) (w : World) (hI : ∀ b, I b → N b) (hbN : N bx)
  (hr : RdL R I 5 w A l) (hf : Puts R aggV l wt N p bx 241) (hc : l.length ≤ c) (hcm : c ≤ maxLen) (h1000 : l.length ≤ 1000) (hbx : w.cell? ⟨bx, 0, none⟩ = some (.pointer (some ⟨p, 0, none⟩)))
  (hW : IsWN N w p f 0) (hroom : f.length + 8 + (l.flatMap wt).length ≤ 65536) :
  Calls Tryz.prog 240 #[.pointer (some ⟨p, 0, none⟩), .slice A l.length c, .func (.func 241) #[] #[.pointer (some ⟨bx, 0, none⟩)]] w fun e w' =>
   e = .returned (.tuple #[]) ∧ IsWN N w' p (f ++ (wInt (l.length : Int) ++ l.flatMap wt)) 0 ∧ Chg (Nt N) w w' := by
 unfold maxLen at hcm
 have HW := Lh (WInt_N N p f (l.length : Int) w hW (by omega))
 have HR := Lh hr
 have HF := Lh hf
 have HRM := Lh hroom
 have HBX := Lh hbx
 have HE : Hid (be (u64 (l.length : Int)) 8 = wInt (l.length : Int)) := Lh rfl
 clear hr hf hroom hW hbx
 go_enter Tryz.func240, Tryz.ntmps240
 go_wp2_with fail
 refine HW.out.mono ?_
 rintro e w1 ⟨rfl, hW1, hg1⟩
 rw [HE.out] at hW1
 have HW1 := Lh hW1
 have HG1 := Lh hg1
 clear hW1 hg1
 go_wp2_with fail
 go_loopw [14] (fun iv wr => ∃ k : Nat, k ≤ l.length ∧ iv = .int .i64 k ∧ Hid (IsWN N wr p (f ++ (wInt (l.length : Int) ++ (l.take k).flatMap wt)) 0) ∧ Hid (Chg (Nt N) w wr)) (fun iv _ => l.length - (intOf iv).toNat)
 case atStart => exact ⟨0, Nat.zero_le _, rfl, Lh (by simpa using HW1.out), HG1⟩
 case round =>
  obtain ⟨k, hk2, rfl, HX, HG⟩ := hrel
  have hnN : ∀ b, I b → ¬ Nt N b := fun b hb h => h (hI b hb)
  by_cases hlt : k < l.length
  ·obtain ⟨a, ha⟩ : ∃ a, l[k]? = some a := ⟨_, List.getElem?_eq_getElem hlt⟩
   obtain ⟨b, o, vs, rfl, hIb, hlen, hcell0, hR⟩ := HR.out k a ha
   have hcell := range_keepS hcell0 HG.out (hnN b hIb)
   have hR2 := hk _ _ _ _ _ HG.out hnN hR
   have hbx := HG.out.cell_some HBX.out (fun h => h hbN)
   have hbl := lt_of_cell hbx
   have hroom2 : (f ++ (wInt (l.length : Int) ++ (l.take k).flatMap wt)).length + (wt a).length ≤ 65536 := by
    have h1 := flat_take_le wt l (k + 1)
    rw [flat_snoc ha, List.length_append] at h1
    have h2 := HRM.out
    rw [List.length_append, List.length_append, wInt_len8]
    omega
   have HK := Lh (fun W (hg : Chg Non wr W) => HF.out W a vs _ (List.mem_of_getElem? ha) (hk _ _ _ _ _ hg (fun _ _ e => e) hR2) (isWN_chg HX.out hg) (hg.cell_some hbx (fun e => e)) hroom2)
   have hltd : decide ((k : Int) < (l.length : Int)) = true := by simpa using hlt
   have HS := Lh (flat_snoc (wt := wt) ha)
   have HO1 := Lh (all_one (ho _ _ _ hR))
   have HL := Lh hlen
   clear ha hR hR2 hcell0 hroom2 hbx
   have HC := Lh hcell
   clear hcell hlen
   go_wp2_with (first
     | (refine sel (some 17) (.load 113 (.tmp 16)) ?_; refine wpList_load_mid rfl 113 (.tmp 16) rfl b (o + k * 5) rfl vs _ HC.out Tryz.underlying113 rfl (by rw [HL.out]; kernel_rfl) ?_)
     | (refine sel none (.store 113 (.tmp 7) (.tmp 17)) ?_
        refine wpList_store_rowA rfl 113 (.tmp 7) (.tmp 17) rfl wr.heap.size vs.toArray rfl rfl 113 _ (blk_new _ _) (by rw [List.size_toArray, HL.out]; kernel_rfl) (sz_of HL.out rfl) HO1.out ?_
        intro W1 hgW1 hbW1)
     | (refine sel (some 19) (.load 113 (.tmp 7)) ?_; refine wpList_load_row rfl 113 (.tmp 7) rfl wr.heap.size rfl 113 vs.toArray (0, 0) _ hbW1 Tryz.underlying113 rfl (by rw [List.size_toArray, HL.out]; kernel_rfl) ?_))
   have hgw : Chg Non wr W1 := ((Chg.refl Non wr).alloc _).then_new hgW1 (fun x e => by omega)
   refine (HK.out W1 hgw).mono ?_
   rintro e u ⟨rfl, hWu, hgu⟩
   have HWu := Lh (show IsWN N u p (f ++ (wInt (l.length : Int) ++ (l.take (k + 1)).flatMap wt)) 0 by rw [HS.out]; simpa [List.append_assoc] using hWu)
   have HGu := Lh (HG.out.trans_same (hgw.non_then hgu))
   clear hWu hgu hgw hgW1 hbW1
   go_wp2_with fail
   exact ⟨⟨k + 1, by omega, by simp, HWu, HGu⟩, by simp [intOf]; omega⟩
  ·obtain rfl : k = l.length := by omega
   have hltd : decide ((l.length : Int) < (l.length : Int)) = false := by simp
   have HXe := Lh (show IsWN N wr p (f ++ (wInt (l.length : Int) ++ l.flatMap wt)) 0 by have := HX.out; rwa [List.take_length] at this)
   clear HX
   go_wp2_with fail
   go_end0
   exact ⟨rfl, HXe.out, HG.out⟩
theorem listCh {α : Type} (R : World → α → List Value → Prop) (I N : Nat → Prop) (hk : ∀ (S : Nat → Prop) (W W' : World) (a : α) (vs : List Value), Chg S W W' → (∀ b, I b → ¬ S b) → R W a vs → R W' a vs)
  (ho : ∀ W a vs, R W a vs → ∀ u ∈ vs, u.oneCell' = true) (wt : α → List UInt8) (p bx : Nat) (A : Option Addr) (l : List α) (c : Nat) (f : List UInt8) (w : World) (hI : ∀ b, I b → N b) (hbN : N bx)
  (hr : RdL R I 5 w A l) (hf : Puts R aggV l wt N p bx 243) (hc : l.length ≤ c) (hcm : c ≤ maxLen) (h1000 : l.length ≤ 1000) (hbx : w.cell? ⟨bx, 0, none⟩ = some (.pointer (some ⟨p, 0, none⟩)))
  (hW : IsWN N w p f 0) (hroom : f.length + 8 + (l.flatMap wt).length ≤ 65536) :
  Calls Tryz.prog 242 #[.pointer (some ⟨p, 0, none⟩), .slice A l.length c, .func (.func 243) #[] #[.pointer (some ⟨bx, 0, none⟩)]] w fun e w' =>
   e = .returned (.tuple #[]) ∧ IsWN N w' p (f ++ (wInt (l.length : Int) ++ l.flatMap wt)) 0 ∧ Chg (Nt N) w w' := by
 unfold maxLen at hcm
 have HW := Lh (WInt_N N p f (l.length : Int) w hW (by omega))
 have HR := Lh hr
 have HF := Lh hf
 have HRM := Lh hroom
 have HBX := Lh hbx
 have HE : Hid (be (u64 (l.length : Int)) 8 = wInt (l.length : Int)) := Lh rfl
 clear hr hf hroom hW hbx
 go_enter Tryz.func242, Tryz.ntmps242
 go_wp2_with fail
 refine HW.out.mono ?_
 rintro e w1 ⟨rfl, hW1, hg1⟩
 rw [HE.out] at hW1
 have HW1 := Lh hW1
 have HG1 := Lh hg1
 clear hW1 hg1
 go_wp2_with fail
 go_loopw [14] (fun iv wr => ∃ k : Nat, k ≤ l.length ∧ iv = .int .i64 k ∧ Hid (IsWN N wr p (f ++ (wInt (l.length : Int) ++ (l.take k).flatMap wt)) 0) ∧ Hid (Chg (Nt N) w wr)) (fun iv _ => l.length - (intOf iv).toNat)
 case atStart => exact ⟨0, Nat.zero_le _, rfl, Lh (by simpa using HW1.out), HG1⟩
 case round =>
  obtain ⟨k, hk2, rfl, HX, HG⟩ := hrel
  have hnN : ∀ b, I b → ¬ Nt N b := fun b hb h => h (hI b hb)
  by_cases hlt : k < l.length
  ·obtain ⟨a, ha⟩ : ∃ a, l[k]? = some a := ⟨_, List.getElem?_eq_getElem hlt⟩
   obtain ⟨b, o, vs, rfl, hIb, hlen, hcell0, hR⟩ := HR.out k a ha
   have hcell := range_keepS hcell0 HG.out (hnN b hIb)
   have hR2 := hk _ _ _ _ _ HG.out hnN hR
   have hbx := HG.out.cell_some HBX.out (fun h => h hbN)
   have hbl := lt_of_cell hbx
   have hroom2 : (f ++ (wInt (l.length : Int) ++ (l.take k).flatMap wt)).length + (wt a).length ≤ 65536 := by
    have h1 := flat_take_le wt l (k + 1)
    rw [flat_snoc ha, List.length_append] at h1
    have h2 := HRM.out
    rw [List.length_append, List.length_append, wInt_len8]
    omega
   have HK := Lh (fun W (hg : Chg Non wr W) => HF.out W a vs _ (List.mem_of_getElem? ha) (hk _ _ _ _ _ hg (fun _ _ e => e) hR2) (isWN_chg HX.out hg) (hg.cell_some hbx (fun e => e)) hroom2)
   have hltd : decide ((k : Int) < (l.length : Int)) = true := by simpa using hlt
   have HS := Lh (flat_snoc (wt := wt) ha)
   have HO1 := Lh (all_one (ho _ _ _ hR))
   have HL := Lh hlen
   clear ha hR hR2 hcell0 hroom2 hbx
   have HC := Lh hcell
   clear hcell hlen
   go_wp2_with (first
     | (refine sel (some 17) (.load 217 (.tmp 16)) ?_; refine wpList_load_mid rfl 217 (.tmp 16) rfl b (o + k * 5) rfl vs _ HC.out Tryz.underlying217 rfl (by rw [HL.out]; kernel_rfl) ?_)
     | (refine sel none (.store 217 (.tmp 7) (.tmp 17)) ?_
        refine wpList_store_rowA rfl 217 (.tmp 7) (.tmp 17) rfl wr.heap.size vs.toArray rfl rfl 217 _ (blk_new _ _) (by rw [List.size_toArray, HL.out]; kernel_rfl) (sz_of HL.out rfl) HO1.out ?_
        intro W1 hgW1 hbW1)
     | (refine sel (some 19) (.load 217 (.tmp 7)) ?_; refine wpList_load_row rfl 217 (.tmp 7) rfl wr.heap.size rfl 217 vs.toArray (0, 0) _ hbW1 Tryz.underlying217 rfl (by rw [List.size_toArray, HL.out]; kernel_rfl) ?_))
   have hgw : Chg Non wr W1 := ((Chg.refl Non wr).alloc _).then_new hgW1 (fun x e => by omega)
   refine (HK.out W1 hgw).mono ?_
   rintro e u ⟨rfl, hWu, hgu⟩
   have HWu := Lh (show IsWN N u p (f ++ (wInt (l.length : Int) ++ (l.take (k + 1)).flatMap wt)) 0 by rw [HS.out]; simpa [List.append_assoc] using hWu)
   have HGu := Lh (HG.out.trans_same (hgw.non_then hgu))
   clear hWu hgu hgw hgW1 hbW1
   go_wp2_with fail
   exact ⟨⟨k + 1, by omega, by simp, HWu, HGu⟩, by simp [intOf]; omega⟩
  ·obtain rfl : k = l.length := by omega
   have hltd : decide ((l.length : Int) < (l.length : Int)) = false := by simp
   have HXe := Lh (show IsWN N wr p (f ++ (wInt (l.length : Int) ++ l.flatMap wt)) 0 by have := HX.out; rwa [List.take_length] at this)
   clear HX
   go_wp2_with fail
   go_end0
   exact ⟨rfl, HXe.out, HG.out⟩
theorem putsWin (I N : Nat → Prop) (hI : ∀ b, I b → N b) (l : List Win) (p bx : Nat) (hbN : N bx) : Puts winV aggV l wWin N p bx 239 := by
 rintro W a vs f ha ⟨rfl, hbd⟩ hW hbx hroom
 have hroom2 : f.length + 16 ≤ 65536 := by rw [wWin_len] at hroom; exact hroom
 have HFm : Hid (f ++ be (u64 a.len) 8 ++ be (u64 a.part) 8 = f ++ wWin a) := Lh (by
   unfold wWin; simp only [wInt, wBy, List.append_assoc, List.cons_append, List.nil_append])
 obtain ⟨OC, hOC⟩ : ∃ o, Obj.cells #[.int .i64 a.len, .int .i64 a.part] 211 = o := ⟨_, rfl⟩
 have hX0 := hW.box OC
 have hg0 : Chg Non W (W.alloc OC) := (Chg.refl Non W).alloc OC
 have hbc : (W.alloc OC).heap[W.heap.size]? = some OC := heap_alloc_new W OC
 have hgN : Hid (Chg (Nt N) W (W.alloc OC)) := Lh ((Chg.refl _ W).alloc _)
 have q0 := hg0.cell_some hbx (fun e => e)
 subst hOC
 clear hW hbx hroom
 show Calls Tryz.prog 239 #[.agg #[.int .i64 a.len, .int .i64 a.part], .pointer (some ⟨bx, 0, none⟩)] W _
 go_enter Tryz.func239, Tryz.ntmps239
 go_wp2_with fail
 obtain ⟨W0, hW0⟩ : ∃ W0, W.alloc (.cells #[.int .i64 a.len, .int .i64 a.part] 211) = W0 := ⟨_, rfl⟩
 obtain ⟨b2, hb2⟩ : ∃ b2, W.heap.size = b2 := ⟨_, rfl⟩
 rw [hW0] at hX0 hg0 hbc hgN q0 ⊢
 rw [hb2] at hX0 hbc ⊢
 have c0 := blk_cell hbc 0 (v := .int .i64 a.len) rfl
 have c1 := blk_cell hbc 1 (v := .int .i64 a.part) rfl
 clear hW0 hb2 hbc hg0
 have HS : Hid (Chg (Nt (Nb N b2)) W0 W0.drew) := Lh ((Chg.refl _ _).drew)
 have HX : Hid (IsWN (Nb N b2) W0.drew p f 0) := Lh (isWN_chg hX0 ((Chg.refl Non _).drew))
 clear hX0
 refine wp_region_held_drew (S := Chg (Nt (Nb N b2)) W0) (by kernel_rfl) HS.out (fun hHeld => ?_)
 clear hHeld
 refine hp 0 3 (.pointer (some ⟨p, 0, none⟩)) rfl HS.out ?_ (he := (fun W hW => by have hc := hW.cell_some q0 (fun h => h (.inl hbN)); go_simp))
 refine hp 1 4 (.pointer (some ⟨b2, 0, none⟩)) rfl HS.out ?_
 refine hp 2 5 (.int .i64 a.len) rfl HS.out ?_ (he := (fun W hW => by have hc := hW.cell_some c0 (fun h => h (.inr rfl)); go_simp))
 refine hp 4 7 (.pointer (some ⟨b2, 1, none⟩)) rfl HS.out ?_
 refine hp 5 8 (.int .i64 a.part) rfl HS.out ?_ (he := (fun W hW => by have hc := hW.cell_some c1 (fun h => h (.inr rfl)); go_simp))
 refine h1o 3 rfl ?_
 intro K hK
 go_simp
 refine (WInt_N (Nb N b2) p _ a.len _ HX.out (by first | omega | (simp only [List.length_append, be_length, List.length_cons, List.length_nil]; omega))).mono ?_
 rintro e u1 ⟨rfl, hwu1, hgu1⟩
 have HX := Lh hwu1
 have HS := Lh (HS.out.trans_same hgu1)
 refine hK.out _ _ HS.out (fun _ => ?_)
 clear hK K hwu1 hgu1
 try simp only [Act.put, sA, sB, sC]
 refine h1o 6 rfl ?_
 intro K hK
 go_simp
 refine (WInt_N (Nb N b2) p _ a.part _ HX.out (by first | omega | (simp only [List.length_append, be_length, List.length_cons, List.length_nil]; omega))).mono ?_
 rintro e u2 ⟨rfl, hwu2, hgu2⟩
 have HX := Lh hwu2
 have HS := Lh (HS.out.trans_same hgu2)
 refine hK.out _ _ HS.out (fun _ => ?_)
 clear hK K hwu2 hgu2
 try simp only [Act.put, sA, sB, sC]
 refine hdn ?_ _
 have HXn := Lh (HX.out.less (N := N) (fun k h => .inl h))
 rw [HFm.out] at HXn
 have HSn := Lh (hgN.out.trans_same (Nt.less (N := N) HS.out (fun k h => .inl h)))
 go_wp2_with fail
 go_end0
 exact ⟨rfl, HXn.out, HSn.out⟩
theorem putsCh (I N : Nat → Prop) (hI : ∀ b, I b → N b) (l : List Ch) (p bx : Nat) (hbN : N bx) : Puts chV aggV l wCh N p bx 243 := by
 rintro W a vs f ha ⟨rfl, hbd⟩ hW hbx hroom
 have hroom2 : f.length + 40 ≤ 65536 := by rw [wCh_len] at hroom; exact hroom
 have HFm : Hid (f ++ be (u64 a.id) 8 ++ be (u64 a.src) 8 ++ be (u64 a.dst) 8 ++ be (u64 a.cap) 8 ++ be (u64 a.size) 8 = f ++ wCh a) := Lh (by
   unfold wCh; simp only [wInt, wBy, List.append_assoc, List.cons_append, List.nil_append])
 obtain ⟨OC, hOC⟩ : ∃ o, Obj.cells #[.int .i64 a.id, .int .i64 a.src, .int .i64 a.dst, .int .i64 a.cap, .int .i64 a.size] 217 = o := ⟨_, rfl⟩
 have hX0 := hW.box OC
 have hg0 : Chg Non W (W.alloc OC) := (Chg.refl Non W).alloc OC
 have hbc : (W.alloc OC).heap[W.heap.size]? = some OC := heap_alloc_new W OC
 have hgN : Hid (Chg (Nt N) W (W.alloc OC)) := Lh ((Chg.refl _ W).alloc _)
 have q0 := hg0.cell_some hbx (fun e => e)
 subst hOC
 clear hW hbx hroom
 show Calls Tryz.prog 243 #[.agg #[.int .i64 a.id, .int .i64 a.src, .int .i64 a.dst, .int .i64 a.cap, .int .i64 a.size], .pointer (some ⟨bx, 0, none⟩)] W _
 go_enter Tryz.func243, Tryz.ntmps243
 go_wp2_with fail
 obtain ⟨W0, hW0⟩ : ∃ W0, W.alloc (.cells #[.int .i64 a.id, .int .i64 a.src, .int .i64 a.dst, .int .i64 a.cap, .int .i64 a.size] 217) = W0 := ⟨_, rfl⟩
 obtain ⟨b2, hb2⟩ : ∃ b2, W.heap.size = b2 := ⟨_, rfl⟩
 rw [hW0] at hX0 hg0 hbc hgN q0 ⊢
 rw [hb2] at hX0 hbc ⊢
 have c0 := blk_cell hbc 0 (v := .int .i64 a.id) rfl
 have c1 := blk_cell hbc 1 (v := .int .i64 a.src) rfl
 have c2 := blk_cell hbc 2 (v := .int .i64 a.dst) rfl
 have c3 := blk_cell hbc 3 (v := .int .i64 a.cap) rfl
 have c4 := blk_cell hbc 4 (v := .int .i64 a.size) rfl
 clear hW0 hb2 hbc hg0
 have HS : Hid (Chg (Nt (Nb N b2)) W0 W0.drew) := Lh ((Chg.refl _ _).drew)
 have HX : Hid (IsWN (Nb N b2) W0.drew p f 0) := Lh (isWN_chg hX0 ((Chg.refl Non _).drew))
 clear hX0
 refine wp_region_held_drew (S := Chg (Nt (Nb N b2)) W0) (by kernel_rfl) HS.out (fun hHeld => ?_)
 clear hHeld
 refine hp 0 3 (.pointer (some ⟨p, 0, none⟩)) rfl HS.out ?_ (he := (fun W hW => by have hc := hW.cell_some q0 (fun h => h (.inl hbN)); go_simp))
 refine hp 1 4 (.pointer (some ⟨b2, 0, none⟩)) rfl HS.out ?_
 refine hp 2 5 (.int .i64 a.id) rfl HS.out ?_ (he := (fun W hW => by have hc := hW.cell_some c0 (fun h => h (.inr rfl)); go_simp))
 refine hp 4 7 (.pointer (some ⟨b2, 1, none⟩)) rfl HS.out ?_
 refine hp 5 8 (.int .i64 a.src) rfl HS.out ?_ (he := (fun W hW => by have hc := hW.cell_some c1 (fun h => h (.inr rfl)); go_simp))
 refine hp 7 10 (.pointer (some ⟨b2, 2, none⟩)) rfl HS.out ?_
 refine hp 8 11 (.int .i64 a.dst) rfl HS.out ?_ (he := (fun W hW => by have hc := hW.cell_some c2 (fun h => h (.inr rfl)); go_simp))
 refine hp 10 13 (.pointer (some ⟨b2, 3, none⟩)) rfl HS.out ?_
 refine hp 11 14 (.int .i64 a.cap) rfl HS.out ?_ (he := (fun W hW => by have hc := hW.cell_some c3 (fun h => h (.inr rfl)); go_simp))
 refine hp 13 16 (.pointer (some ⟨b2, 4, none⟩)) rfl HS.out ?_
 refine hp 14 17 (.int .i64 a.size) rfl HS.out ?_ (he := (fun W hW => by have hc := hW.cell_some c4 (fun h => h (.inr rfl)); go_simp))
 refine h1o 3 rfl ?_
 intro K hK
 go_simp
 refine (WInt_N (Nb N b2) p _ a.id _ HX.out (by first | omega | (simp only [List.length_append, be_length, List.length_cons, List.length_nil]; omega))).mono ?_
 rintro e u1 ⟨rfl, hwu1, hgu1⟩
 have HX := Lh hwu1
 have HS := Lh (HS.out.trans_same hgu1)
 refine hK.out _ _ HS.out (fun _ => ?_)
 clear hK K hwu1 hgu1
 try simp only [Act.put, sA, sB, sC]
 refine h1o 6 rfl ?_
 intro K hK
 go_simp
 refine (WInt_N (Nb N b2) p _ a.src _ HX.out (by first | omega | (simp only [List.length_append, be_length, List.length_cons, List.length_nil]; omega))).mono ?_
 rintro e u2 ⟨rfl, hwu2, hgu2⟩
 have HX := Lh hwu2
 have HS := Lh (HS.out.trans_same hgu2)
 refine hK.out _ _ HS.out (fun _ => ?_)
 clear hK K hwu2 hgu2
 try simp only [Act.put, sA, sB, sC]
 refine h1o 9 rfl ?_
 intro K hK
 go_simp
 refine (WInt_N (Nb N b2) p _ a.dst _ HX.out (by first | omega | (simp only [List.length_append, be_length, List.length_cons, List.length_nil]; omega))).mono ?_
 rintro e u3 ⟨rfl, hwu3, hgu3⟩
 have HX := Lh hwu3
 have HS := Lh (HS.out.trans_same hgu3)
 refine hK.out _ _ HS.out (fun _ => ?_)
 clear hK K hwu3 hgu3
 try simp only [Act.put, sA, sB, sC]
 refine h1o 12 rfl ?_
 intro K hK
 go_simp
 refine (WInt_N (Nb N b2) p _ a.cap _ HX.out (by first | omega | (simp only [List.length_append, be_length, List.length_cons, List.length_nil]; omega))).mono ?_
 rintro e u4 ⟨rfl, hwu4, hgu4⟩
 have HX := Lh hwu4
 have HS := Lh (HS.out.trans_same hgu4)
 refine hK.out _ _ HS.out (fun _ => ?_)
 clear hK K hwu4 hgu4
 try simp only [Act.put, sA, sB, sC]
 refine h1o 15 rfl ?_
 intro K hK
 go_simp
 refine (WInt_N (Nb N b2) p _ a.size _ HX.out (by first | omega | (simp only [List.length_append, be_length, List.length_cons, List.length_nil]; omega))).mono ?_
 rintro e u5 ⟨rfl, hwu5, hgu5⟩
 have HX := Lh hwu5
 have HS := Lh (HS.out.trans_same hgu5)
 refine hK.out _ _ HS.out (fun _ => ?_)
 clear hK K hwu5 hgu5
 try simp only [Act.put, sA, sB, sC]
 refine hdn ?_ _
 have HXn := Lh (HX.out.less (N := N) (fun k h => .inl h))
 rw [HFm.out] at HXn
 have HSn := Lh (hgN.out.trans_same (Nt.less (N := N) HS.out (fun k h => .inl h)))
 go_wp2_with fail
 go_end0
 exact ⟨rfl, HXn.out, HSn.out⟩
theorem putsPn (I N : Nat → Prop) (hI : ∀ b, I b → N b) (l : List Pn) (p bx : Nat) (hbN : N bx) : Puts (pnV I) aggV l wPn N p bx 241 := by
 rintro W a vs f ha ⟨m, rfl, ⟨A, c, rfl, hc, hm, hrd, hIA⟩, hbd, hl⟩ hW hbx hroom
 have hroom2 : f.length + 29 + a.img.length ≤ 65536 := by rw [wPn_len] at hroom; omega
 have HFm : Hid (f ++ be (u64 a.id) 8 ++ be (u64 a.base) 8 ++ be (u64 a.size) 8 ++ [flagB a.keep] ++ (be a.img.length 4 ++ a.img) = f ++ wPn a) := Lh (by
   unfold wPn; simp only [wInt, wBy, List.append_assoc, List.cons_append, List.nil_append])
 obtain ⟨OC, hOC⟩ : ∃ o, Obj.cells #[.int .i64 a.id, .int .i64 a.base, .int .i64 a.size, .bool a.keep, .slice A a.img.length c] 113 = o := ⟨_, rfl⟩
 have hX0 := hW.box OC
 have hg0 : Chg Non W (W.alloc OC) := (Chg.refl Non W).alloc OC
 have hbc : (W.alloc OC).heap[W.heap.size]? = some OC := heap_alloc_new W OC
 have hgN : Hid (Chg (Nt N) W (W.alloc OC)) := Lh ((Chg.refl _ W).alloc _)
 have q0 := hg0.cell_some hbx (fun e => e)
 subst hOC
 clear hW hbx hroom
 show Calls Tryz.prog 241 #[.agg #[.int .i64 a.id, .int .i64 a.base, .int .i64 a.size, .bool a.keep, .slice A a.img.length c], .pointer (some ⟨bx, 0, none⟩)] W _
 go_enter Tryz.func241, Tryz.ntmps241
 go_wp2_with fail
 obtain ⟨W0, hW0⟩ : ∃ W0, W.alloc (.cells #[.int .i64 a.id, .int .i64 a.base, .int .i64 a.size, .bool a.keep, .slice A a.img.length c] 113) = W0 := ⟨_, rfl⟩
 obtain ⟨b2, hb2⟩ : ∃ b2, W.heap.size = b2 := ⟨_, rfl⟩
 rw [hW0] at hX0 hg0 hbc hgN q0 ⊢
 rw [hb2] at hX0 hbc ⊢
 have c0 := blk_cell hbc 0 (v := .int .i64 a.id) rfl
 have c1 := blk_cell hbc 1 (v := .int .i64 a.base) rfl
 have c2 := blk_cell hbc 2 (v := .int .i64 a.size) rfl
 have c3 := blk_cell hbc 3 (v := .bool a.keep) rfl
 have c4 := blk_cell hbc 4 (v := .slice A a.img.length c) rfl
 have HRd : Hid (∀ W', Chg (Nt (Nb N b2)) W0 W' → Rd W' A a.img) := Lh (fun W' hg => (hrd.non hg0).keep hg (fun b o e hne h => h (.inl (hI _ (hIA b o e hne)))))
 clear hW0 hb2 hbc hg0
 have HS : Hid (Chg (Nt (Nb N b2)) W0 W0.drew) := Lh ((Chg.refl _ _).drew)
 have HX : Hid (IsWN (Nb N b2) W0.drew p f 0) := Lh (isWN_chg hX0 ((Chg.refl Non _).drew))
 clear hX0
 refine wp_region_held_drew (S := Chg (Nt (Nb N b2)) W0) (by kernel_rfl) HS.out (fun hHeld => ?_)
 clear hHeld
 refine hp 0 3 (.pointer (some ⟨p, 0, none⟩)) rfl HS.out ?_ (he := (fun W hW => by have hc := hW.cell_some q0 (fun h => h (.inl hbN)); go_simp))
 refine hp 1 4 (.pointer (some ⟨b2, 0, none⟩)) rfl HS.out ?_
 refine hp 2 5 (.int .i64 a.id) rfl HS.out ?_ (he := (fun W hW => by have hc := hW.cell_some c0 (fun h => h (.inr rfl)); go_simp))
 refine hp 4 7 (.pointer (some ⟨b2, 1, none⟩)) rfl HS.out ?_
 refine hp 5 8 (.pointer (some ⟨b2, 1, none⟩)) rfl HS.out ?_
 refine hp 6 9 (.int .i64 a.base) rfl HS.out ?_ (he := (fun W hW => by have hc := hW.cell_some c1 (fun h => h (.inr rfl)); go_simp))
 refine hp 8 11 (.pointer (some ⟨b2, 1, none⟩)) rfl HS.out ?_
 refine hp 9 12 (.pointer (some ⟨b2, 2, none⟩)) rfl HS.out ?_
 refine hp 10 13 (.int .i64 a.size) rfl HS.out ?_ (he := (fun W hW => by have hc := hW.cell_some c2 (fun h => h (.inr rfl)); go_simp))
 refine hp 12 15 (.pointer (some ⟨b2, 3, none⟩)) rfl HS.out ?_
 refine hp 13 16 (.bool a.keep) rfl HS.out ?_ (he := (fun W hW => by have hc := hW.cell_some c3 (fun h => h (.inr rfl)); go_simp))
 refine hp 15 18 (.pointer (some ⟨b2, 4, none⟩)) rfl HS.out ?_
 refine hp 16 19 (.slice A a.img.length c) rfl HS.out ?_ (he := (fun W hW => by have hc := hW.cell_some c4 (fun h => h (.inr rfl)); go_simp))
 refine h1o 3 rfl ?_
 intro K hK
 go_simp
 refine (WInt_N (Nb N b2) p _ a.id _ HX.out (by first | omega | (simp only [List.length_append, be_length, List.length_cons, List.length_nil]; omega))).mono ?_
 rintro e u1 ⟨rfl, hwu1, hgu1⟩
 have HX := Lh hwu1
 have HS := Lh (HS.out.trans_same hgu1)
 refine hK.out _ _ HS.out (fun _ => ?_)
 clear hK K hwu1 hgu1
 try simp only [Act.put, sA, sB, sC]
 refine h1o 7 rfl ?_
 intro K hK
 go_simp
 refine (WInt_N (Nb N b2) p _ a.base _ HX.out (by first | omega | (simp only [List.length_append, be_length, List.length_cons, List.length_nil]; omega))).mono ?_
 rintro e u2 ⟨rfl, hwu2, hgu2⟩
 have HX := Lh hwu2
 have HS := Lh (HS.out.trans_same hgu2)
 refine hK.out _ _ HS.out (fun _ => ?_)
 clear hK K hwu2 hgu2
 try simp only [Act.put, sA, sB, sC]
 refine h1o 11 rfl ?_
 intro K hK
 go_simp
 refine (WInt_N (Nb N b2) p _ a.size _ HX.out (by first | omega | (simp only [List.length_append, be_length, List.length_cons, List.length_nil]; omega))).mono ?_
 rintro e u3 ⟨rfl, hwu3, hgu3⟩
 have HX := Lh hwu3
 have HS := Lh (HS.out.trans_same hgu3)
 refine hK.out _ _ HS.out (fun _ => ?_)
 clear hK K hwu3 hgu3
 try simp only [Act.put, sA, sB, sC]
 refine h1o 14 rfl ?_
 intro K hK
 go_simp
 refine (WFlag_N (Nb N b2) p _ a.keep _ HX.out (by first | omega | (simp only [List.length_append, be_length, List.length_cons, List.length_nil]; omega))).mono ?_
 rintro e u4 ⟨rfl, hwu4, hgu4⟩
 have HX := Lh hwu4
 have HS := Lh (HS.out.trans_same hgu4)
 refine hK.out _ _ HS.out (fun _ => ?_)
 clear hK K hwu4 hgu4
 try simp only [Act.put, sA, sB, sC]
 refine h1o 17 rfl ?_
 intro K hK
 go_simp
 refine (WBytes_N (Nb N b2) p c _ a.img A _ HX.out (HRd.out _ HS.out) (by first | omega | (simp only [List.length_append, be_length, List.length_cons, List.length_nil]; omega))).mono ?_
 rintro e u5 ⟨rfl, hwu5, hgu5⟩
 have HX := Lh hwu5
 have HS := Lh (HS.out.trans_same hgu5)
 refine hK.out _ _ HS.out (fun _ => ?_)
 clear hK K hwu5 hgu5
 try simp only [Act.put, sA, sB, sC]
 refine hdn ?_ _
 have HXn := Lh (HX.out.less (N := N) (fun k h => .inl h))
 rw [HFm.out] at HXn
 have HSn := Lh (hgN.out.trans_same (Nt.less (N := N) HS.out (fun k h => .inl h)))
 go_wp2_with fail
 go_end0
 exact ⟨rfl, HXn.out, HSn.out⟩
end
section
open Go.RowKit
deriving instance DecidableEq for Ch
theorem pnV_one {I : Nat → Prop} : ∀ W a vs, pnV I W a vs → ∀ u ∈ vs, u.oneCell' = true := by
 rintro W a vs ⟨m, rfl, ⟨A, c, rfl, _⟩, _⟩ u hu
 simp only [Pn.L, List.mem_cons, List.not_mem_nil, or_false] at hu
 rcases hu with rfl | rfl | rfl | rfl | rfl <;> rfl
theorem chV_one : ∀ W a vs, chV W a vs → ∀ u ∈ vs, u.oneCell' = true := by
 rintro W a vs ⟨rfl, _⟩ u hu
 simp only [Ch.L, List.mem_cons, List.not_mem_nil, or_false] at hu
 rcases hu with rfl | rfl | rfl | rfl | rfl <;> rfl
theorem winV_one : ∀ W a vs, winV W a vs → ∀ u ∈ vs, u.oneCell' = true := by
 rintro W a vs ⟨rfl, _⟩ u hu
 simp only [Win.L, List.mem_cons, List.not_mem_nil, or_false] at hu
 rcases hu with rfl | rfl <;> rfl
end
section
open Go.RowKit
def longP (p : Pn) : Bool := decide (512 < p.img.length)
theorem canC_any (c : Cfg) : canC c = (decide (c.ws.length ≤ 12) && decide (c.ps.length ≤ 6) && decide (c.cs.length ≤ 8) && !c.ps.any longP) := by
 unfold canC
 congr 1
 rw [List.not_any_eq_all_not]
 congr 1
 funext p
 unfold longP
 rw [Bool.eq_iff_iff]
 simp
theorem can1_ok (I : Nat → Prop) (l : List Pn) (w : World) : Asks (pnV I) aggV l longP w 234 [] := by
 rintro W a vs hg _ ⟨m, rfl, ⟨A, c, rfl, hc, hm, _⟩, _, hl⟩
 show Calls Tryz.prog 234 #[.agg #[.int .i64 a.id, .int .i64 a.base, .int .i64 a.size, .bool a.keep, .slice A a.img.length c]] W _
 unfold longP
 go_enter Tryz.func234, Tryz.ntmps234
 go_wp2
 go_ret
 refine ⟨congrArg Ending.returned ?_, (Chg.refl _ _).alloc _⟩
 show Value.bool (decide ((512 : Int) < (a.img.length : Int))) = Value.bool (decide (512 < a.img.length))
 congr 1
 rw [decide_eq_decide]
 omega
theorem can_ok (I : Nat → Prop) (w : World) (c : Cfg) (A1 A2 A3 : Option Addr) (c1 c2 c3 : Nat) (h : CfgR I w c A1 A2 A3 c1 c2 c3) :
  Calls Tryz.prog 155 #[.agg #[.slice A1 c.ws.length c1, .slice A2 c.ps.length c2, .slice A3 c.cs.length c3]] w fun e w' => e = .returned (.bool (canC c)) ∧ Chg Non w w' := by
 have HL := Lh (fun W (hW : Chg Non w W) => anyCan (pnV I) I (fun W W' a vs hg h => pnV_non _ _ _ _ hg h) longP A2 c.ps c2 W (h.non hW).ps (can1_ok I c.ps W) h.l2.1 h.l2.2)
 have HE := Lh (canC_any c)
 have l1 := h.l1; have l2 := h.l2; have l3 := h.l3
 unfold maxLen at l1 l2 l3
 clear h
 obtain ⟨x, hx⟩ : ∃ x, c.ws.length = x := ⟨_, rfl⟩
 obtain ⟨y, hy⟩ : ∃ x, c.ps.length = x := ⟨_, rfl⟩
 obtain ⟨z, hz⟩ : ∃ x, c.cs.length = x := ⟨_, rfl⟩
 obtain ⟨r, hr⟩ : ∃ x, c.ps.any longP = x := ⟨_, rfl⟩
 rw [hx] at HE l1 ⊢
 rw [hy] at HE HL l2 ⊢
 rw [hz] at HE l3 ⊢
 rw [hr] at HL HE
 clear hx hy hz hr
 obtain ⟨s, hs⟩ : ∃ s, canC c = s := ⟨_, rfl⟩
 rw [hs] at HE ⊢
 clear hs
 by_cases h1 : x ≤ 12
 ·by_cases h2 : y ≤ 6
  ·by_cases h3 : z ≤ 8
   ·have hS : s = !r := by rw [HE.out]; simp [h1, h2, h3]
    subst hS
    clear HE
    go_enter Tryz.func155, Tryz.ntmps155
    go_wp2_with fail
    refine (HL.out _ ((Chg.refl Non w).alloc _)).mono ?_
    rintro e w1 ⟨rfl, hg⟩
    go_wp2
    go_ret
    exact ⟨rfl, ((Chg.refl Non w).alloc _).then_non hg⟩
   ·have hS : s = false := by rw [HE.out]; simp [h3]
    subst hS
    clear HE
    go_enter Tryz.func155, Tryz.ntmps155
    go_wp2
    go_ret
    exact ⟨rfl, (Chg.refl Non w).alloc _⟩
  ·have hS : s = false := by rw [HE.out]; simp [h2]
   subst hS
   clear HE
   go_enter Tryz.func155, Tryz.ntmps155
   go_wp2
   go_ret
   exact ⟨rfl, (Chg.refl Non w).alloc _⟩
 ·have hS : s = false := by rw [HE.out]; simp [h1]
  subst hS
  clear HE
  go_enter Tryz.func155, Tryz.ntmps155
  go_wp2
  go_ret
  exact ⟨rfl, (Chg.refl Non w).alloc _⟩
theorem cprint_ok (I : Nat → Prop) (w : World) (c : Cfg) (A1 A2 A3 : Option Addr) (c1 c2 c3 : Nat) (h : CfgR I w c A1 A2 A3 c1 c2 c3) (hI : ∀ b, I b → b < w.heap.size) (hm : canC c = true) :
  Calls Tryz.prog 167 #[.agg #[.slice A1 c.ws.length c1, .slice A2 c.ps.length c2, .slice A3 c.cs.length c3]] w fun e w' => ∃ A k, e = .returned (.tuple #[.slice A (formC c).length k, .int .i64 0]) ∧ (formC c).length ≤ k ∧ k ≤ maxLen ∧ Own w.heap.size w' A (formC c) ∧ Chg Non w w' := by
 have HM := Lh (fun W (hg : Chg Non w W) => can_ok I W c A1 A2 A3 c1 c2 c3 (h.non hg))
 have hlen := (formC_len hm).1
 obtain ⟨n1, n2, n3, _⟩ := canC_bd hm
 have hfe : formC c = (wInt (c.ws.length : Int) ++ c.ws.flatMap wWin) ++ ((wInt (c.ps.length : Int) ++ c.ps.flatMap wPn) ++ (wInt (c.cs.length : Int) ++ c.cs.flatMap wCh)) := by unfold formC; simp only [List.append_assoc]
 have hlp : (c.ws.flatMap wWin).length + (c.ps.flatMap wPn).length + (c.cs.flatMap wCh).length + 24 ≤ 3782 := by rw [hfe] at hlen; simp only [List.length_append, wInt_len8] at hlen; omega
 have HH := Lh h
 have HFE := Lh hfe
 have HLN := Lh hlen
 rw [hm] at HM
 have l1 := h.l1; have l2 := h.l2; have l3 := h.l3
 clear h hfe hlen hm
 go_enter Tryz.func167, Tryz.ntmps167
 go_wp2_with fail
 refine (HM.out _ ((Chg.refl Non w).alloc _)).mono ?_
 rintro e w1 ⟨rfl, hg0⟩
 have HB1 := Lh (blk_keep (blk_new w (.cells #[.slice A1 c.ws.length c1, .slice A2 c.ps.length c2, .slice A3 c.cs.length c3] 28)) hg0 (fun e => e))
 have HG0 := Lh (((Chg.refl Non w).alloc _).then_non hg0)
 clear hg0 HM
 obtain ⟨b1, hb1⟩ : ∃ b, w.heap.size = b := ⟨_, rfl⟩
 rw [hb1] at HB1 ⊢
 have hltB := blk_lt HB1.out
 obtain ⟨B, hB⟩ : ∃ B, w1.heap.size = B := ⟨_, rfl⟩
 rw [hB] at hltB
 have HBe := Lh hB
 have HIB : Hid (∀ b, I b → b < B) := Lh (fun b hb => by have := hI b hb; omega)
 have HN1 := Lh (NewWriter_N (Upto B) w1 (fun k hk => by have hk : k < B := hk; omega))
 rw [hB] at HN1
 have Hb1 := Lh hb1
 clear hB hb1 hI
 go_wp2_with fail
 refine HN1.out.mono ?_
 rintro e u1 ⟨rfl, hw, hg1⟩
 have hX := (hw.box (.cells #[.pointer none] 156)).cellN u1.heap.size 0 (.pointer (some ⟨B, 0, none⟩)) (.inr rfl)
 have hgb : Chg Non w1 ((u1.alloc (.cells #[.pointer none] 156)).setCell ⟨u1.heap.size, 0, none⟩ (.pointer (some ⟨B, 0, none⟩))) := (hg1.alloc _).setCell (p := ⟨u1.heap.size, 0, none⟩) (.inr hg1.size) _
 have hbx : ((u1.alloc (.cells #[.pointer none] 156)).setCell ⟨u1.heap.size, 0, none⟩ (.pointer (some ⟨B, 0, none⟩))).heap[u1.heap.size]? = some (.cells #[.pointer (some ⟨B, 0, none⟩)] 156 (0, 0)) := blk_set 0 _ (blk_new _ _)
 have hBu : B < u1.heap.size := hw.lt
 have HN2 := Lh HN1
 clear HN1 HN2 hw
 obtain ⟨bx, hbx0⟩ : ∃ b, u1.heap.size = b := ⟨_, rfl⟩
 rw [hbx0] at hX hgb hbx hBu
 obtain ⟨U, hU⟩ : ∃ U, (u1.alloc (.cells #[.pointer none] 156)).setCell ⟨bx, 0, none⟩ (.pointer (some ⟨B, 0, none⟩)) = U := ⟨_, rfl⟩
 rw [hU] at hX hgb hbx
 have hIN : ∀ b, I b → Nb (Upto B) bx b := fun b hb => .inl (show b < B from HIB.out b hb)
 have hkN : ∀ b, I b → ¬ Nt (Nb (Upto B) bx) b := fun b hb h => h (hIN b hb)
 have hb1N : Nb (Upto B) bx b1 := .inl (show b1 < B by omega)
 have HBU := Lh (blk_keep HB1.out hgb (fun e => e))
 have HGU := Lh (HG0.out.then_non hgb)
 have hRU := HH.out.non HGU.out
 have q0 := blk_cell hbx 0 (v := .pointer (some ⟨B, 0, none⟩)) rfl
 have d0 := blk_cell HBU.out 0 (v := .slice A1 c.ws.length c1) rfl
 have d1 := blk_cell HBU.out 1 (v := .slice A2 c.ps.length c2) rfl
 have d2 := blk_cell HBU.out 2 (v := .slice A3 c.cs.length c3) rfl
 have HL1 := Lh (listWin winV I (Nb (Upto B) bx) (fun S W W' a vs hg hn h => h) winV_one wWin B bx A1 c.ws c1 [] U hIN (.inr rfl) hRU.ws (putsWin I _ hIN _ B bx (.inr rfl)) l1.1 l1.2 (by omega) q0 hX (by simp only [List.length_nil]; omega))
 clear hX hbx hgb HH
 go_wp2_with (first | rw [hbx0] | rw [hU])
 refine HL1.out.mono ?_
 rintro e u2 ⟨rfl, hw2, hg2⟩
 have q1 := hg2.cell_some q0 (fun h => h (.inr rfl))
 have e1 := hg2.cell_some d1 (fun h => h hb1N)
 have e2 := hg2.cell_some d2 (fun h => h hb1N)
 have HL2 := Lh (listPn (pnV I) I (Nb (Upto B) bx) (fun S W W' a vs hg hn h => pnV.keep h hg hn) pnV_one wPn B bx A2 c.ps c2 _ u2 hIN (.inr rfl) (hRU.ps.keep hg2 hkN (fun a vs _ h => pnV.keep h hg2 hkN)) (putsPn I _ hIN _ B bx (.inr rfl)) l2.1 l2.2 (by omega) q1 hw2 (by simp only [List.length_append, wInt_len8, List.length_nil]; omega))
 have HR2 := Lh (hRU.cs.keep hg2 hkN (fun _ _ _ h => h))
 have HG2 := Lh hg2
 clear hw2 hg2 q0 d0 d1 d2 HL1 hRU
 go_wp2_with fail
 refine HL2.out.mono ?_
 rintro e u3 ⟨rfl, hw3, hg3⟩
 have q2 := hg3.cell_some q1 (fun h => h (.inr rfl))
 have g2 := hg3.cell_some e2 (fun h => h hb1N)
 have HL3 := Lh (listCh chV I (Nb (Upto B) bx) (fun S W W' a vs hg hn h => h) chV_one wCh B bx A3 c.cs c3 _ u3 hIN (.inr rfl) (HR2.out.keep hg3 hkN (fun _ _ _ h => h)) (putsCh I _ hIN _ B bx (.inr rfl)) l3.1 l3.2 (by omega) q2 hw3 (by simp only [List.length_append, wInt_len8, List.length_nil]; omega))
 have HG3 := Lh (HG2.out.trans_same hg3)
 clear hw3 hg3 q1 e1 e2 HL2 HR2
 go_wp2_with fail
 refine HL3.out.mono ?_
 rintro e u4 ⟨rfl, hw4, hg4⟩
 have q3 := hg4.cell_some q2 (fun h => h (.inr rfl))
 rw [List.nil_append, List.append_assoc, ← HFE.out] at hw4
 have HD := Lh (WDone_N _ B (formC c) u4 hw4 (by have := HLN.out; omega))
 have HG4 : Hid (Chg Non w u4) := Lh (HGU.out.then_new (HG3.out.trans_same hg4) (fun x e => by have e : ¬ x < B := fun h => e (.inl h); have := Hb1.out; omega))
 clear hw4 hg4 q2 g2 HL3
 go_wp2_with fail
 refine HD.out.mono ?_
 rintro e u5 ⟨A5, c5, rfl, h1, h2, h3, h4⟩
 have HO := Lh (h3.mono HG4.out.size)
 have HG5 := Lh (HG4.out.then_non h4)
 clear h3 h4
 go_wp2_with fail
 go_ret2
 exact ⟨A5, c5, rfl, h1, h2, HO.out, HG5.out⟩
end
section
open Go.RowKit
theorem rowMid {w : World} {b : Nat} {C : Array Value} {t : TypeId} {fr : Nat × Nat} (h : w.heap[b]? = some (.cells C t fr)) (o n : Nat) (L : List Value) (hL : (C.toList.drop o).take n = L) : w.rangeAt b o L := fun j v hv => by
 rw [cell_of_row _ _ _ _ _ _ h]
 subst hL
 have hj : j < n := by
  have := (List.getElem?_eq_some_iff.1 hv).1
  rw [List.length_take] at this
  omega
 rw [List.getElem?_take_of_lt hj, List.getElem?_drop, Array.getElem?_toList] at hv
 exact hv
structure MfC (m : Mf) (a b d : Value) (C : Array Value) : Prop where
 size : C.size = 69
 ver : C[0]? = some (.int .i64 m.ver)
 prev : (C.toList.drop 1).take 32 = (tagA m.prev).toList
 trial : C[33]? = some (.int .i64 m.trial)
 c0 : C[34]? = some a
 c1 : C[35]? = some b
 c2 : C[36]? = some d
 tag : (C.toList.drop 37).take 32 = (tagA m.tag).toList
 one : C.all (·.oneCell') = true
theorem info_tag' : (Tryz.prog.info? 23).map (·.size) = some 32 := by kernel_rfl
structure MfR (I : Nat → Prop) (w : World) (m : Mf) (A1 A2 A3 : Option Addr) (c1 c2 c3 : Nat) (C : Array Value) : Prop where
 cells : MfC m (.slice A1 m.cfg.ws.length c1) (.slice A2 m.cfg.ps.length c2) (.slice A3 m.cfg.cs.length c3) C
 cfg : CfgR I w m.cfg A1 A2 A3 c1 c2 c3
 bd : MfBd m
theorem MfR.non {I : Nat → Prop} {w w' : World} {m : Mf} {A1 A2 A3 : Option Addr} {c1 c2 c3 : Nat} {C : Array Value} (h : MfR I w m A1 A2 A3 c1 c2 c3 C) (hg : Chg Non w w') : MfR I w' m A1 A2 A3 c1 c2 c3 C := ⟨h.cells, h.cfg.non hg, h.bd⟩
structure MfAt (W : World) (g : Nat) (m : Mf) (a b d : Value) : Prop where
 c0 : W.cell? ⟨g, 0, none⟩ = some (.int .i64 m.ver)
 c33 : W.cell? ⟨g, 33, none⟩ = some (.int .i64 m.trial)
 c34 : W.cell? ⟨g, 34, none⟩ = some a
 c35 : W.cell? ⟨g, 35, none⟩ = some b
 c36 : W.cell? ⟨g, 36, none⟩ = some d
 t1 : W.rangeAt g 1 (tagA m.prev).toList
 t2 : W.rangeAt g 37 (tagA m.tag).toList
theorem MfC.at_ {m : Mf} {a b d : Value} {C : Array Value} (h : MfC m a b d C) {W : World} {g : Nat} {t : TypeId} {fr : Nat × Nat} (hb : W.heap[g]? = some (.cells C t fr)) : MfAt W g m a b d :=
 ⟨blk_cell hb 0 h.ver, blk_cell hb 33 h.trial, blk_cell hb 34 h.c0, blk_cell hb 35 h.c1, blk_cell hb 36 h.c2, rowMid hb 1 32 _ h.prev, rowMid hb 37 32 _ h.tag⟩
theorem MfAt.keep {S : Nat → Prop} {W W' : World} {g : Nat} {m : Mf} {a b d : Value} (h : MfAt W g m a b d) (hg : Chg S W W') (hn : ¬ S g) : MfAt W' g m a b d :=
 ⟨hg.cell_some h.c0 hn, hg.cell_some h.c33 hn, hg.cell_some h.c34 hn, hg.cell_some h.c35 hn, hg.cell_some h.c36 hn, range_keepS h.t1 hg hn, range_keepS h.t2 hg hn⟩
theorem mcan_ok (I : Nat → Prop) (w : World) (m : Mf) (A1 A2 A3 : Option Addr) (c1 c2 c3 : Nat) (C : Array Value) (h : MfR I w m A1 A2 A3 c1 c2 c3 C) :
  Calls Tryz.prog 93 #[.agg C] w fun e w' => e = .returned (.bool (canM m)) ∧ Chg Non w w' := by
 have hAt := h.cells.at_ (blk_new w (.cells C 30))
 have HC := Lh (can_ok I (w.alloc (.cells C 30)) m.cfg A1 A2 A3 c1 c2 c3 (h.cfg.non ((Chg.refl Non w).alloc _)))
 obtain ⟨k0, k33, k34, k35, k36, _, _⟩ := hAt
 have hg : Chg Non w (w.alloc (.cells C 30)) := (Chg.refl Non w).alloc _
 have HG := Lh hg
 have HE : Hid (canM m = (decide (1 ≤ m.ver) && decide (m.ver ≤ 1099511627776) && decide (1 ≤ m.trial) && decide (m.trial ≤ 8) && canC m.cfg)) := Lh rfl
 obtain ⟨v, hv⟩ : ∃ x, m.ver = x := ⟨_, rfl⟩
 obtain ⟨t, ht⟩ : ∃ x, m.trial = x := ⟨_, rfl⟩
 obtain ⟨r, hr⟩ : ∃ x, canC m.cfg = x := ⟨_, rfl⟩
 rw [hv] at HE k0
 rw [ht] at HE k33
 rw [hr] at HE HC
 obtain ⟨s, hs⟩ : ∃ s, canM m = s := ⟨_, rfl⟩
 rw [hs] at HE ⊢
 clear hv ht hr hs h hg
 by_cases h1 : 1 ≤ v
 ·by_cases h2 : v ≤ 1099511627776
  ·by_cases h3 : 1 ≤ t
   ·by_cases h4 : t ≤ 8
    ·have hS : s = r := by rw [HE.out]; simp [h1, h2, h3, h4]
     subst hS
     clear HE
     go_enter Tryz.func93, Tryz.ntmps93
     go_wp2_with fail
     refine HC.out.mono ?_
     rintro e w1 ⟨rfl, hg1⟩
     go_wp2
     go_ret
     exact ⟨rfl, HG.out.then_non hg1⟩
    ·have hS : s = false := by rw [HE.out]; simp [h4]
     subst hS
     clear HE
     go_enter Tryz.func93, Tryz.ntmps93
     go_wp2
     go_ret
     exact ⟨rfl, HG.out⟩
   ·have hS : s = false := by rw [HE.out]; simp [h3]
    subst hS
    clear HE
    go_enter Tryz.func93, Tryz.ntmps93
    go_wp2
    go_ret
    exact ⟨rfl, HG.out⟩
  ·have hS : s = false := by rw [HE.out]; simp [h2]
   subst hS
   clear HE
   go_enter Tryz.func93, Tryz.ntmps93
   go_wp2
   go_ret
   exact ⟨rfl, HG.out⟩
 ·have hS : s = false := by rw [HE.out]; simp [h1]
  subst hS
  clear HE
  go_enter Tryz.func93, Tryz.ntmps93
  go_wp2
  go_ret
  exact ⟨rfl, HG.out⟩
theorem mhead_ok (I : Nat → Prop) (w : World) (m : Mf) (A1 A2 A3 : Option Addr) (c1 c2 c3 : Nat) (C : Array Value) (h : MfR I w m A1 A2 A3 c1 c2 c3 C) (hI : ∀ b, I b → b < w.heap.size) (hm : canM m = true) :
  Calls Tryz.prog 98 #[.agg C] w fun e w' => ∃ pw, e = .returned (.pointer (some ⟨pw, 0, none⟩)) ∧ IsWN (Upto w.heap.size) w' pw (headM m) 0 ∧ Chg Non w w' := by
 have hcc := canM_cfg hm
 have hgw : Chg Non w (w.alloc (.cells C 30)) := (Chg.refl Non w).alloc _
 have hAt := h.cells.at_ (blk_new w (.cells C 30))
 have HC := Lh (cprint_ok I (w.alloc (.cells C 30)) m.cfg A1 A2 A3 c1 c2 c3 (h.cfg.non hgw) (fun b hb => by have := hI b hb; simp; omega) hcc)
 have HLn : Hid ((formC m.cfg).length ≤ 3782) := Lh (formC_len hcc).1
 have HPl : Hid (m.prev.length = 32) := Lh h.bd.pl
 have HE : Hid (headM m = [] ++ be (u64 m.ver) 8 ++ m.prev ++ be (u64 m.trial) 8 ++ (be (formC m.cfg).length 4 ++ formC m.cfg)) := Lh (by unfold headM wBy wInt; simp only [List.append_assoc, List.nil_append])
 have HAt := Lh hAt
 have HG := Lh hgw
 obtain ⟨k0, k33, k34, k35, k36, _, _⟩ := hAt
 obtain ⟨F, hF⟩ : ∃ F, formC m.cfg = F := ⟨_, rfl⟩
 rw [hF] at HC HLn HE
 clear h hm hcc hgw hF hI
 go_enter Tryz.func98, Tryz.ntmps98
 go_wp2_with fail
 refine HC.out.mono ?_
 rintro e w1 ⟨A, k, rfl, h1, h2, h3, hg1⟩
 have HF := Lh h3.rd
 have HFb : Hid (∀ b o, A = some ⟨b, o, none⟩ → F ≠ [] → b < w1.heap.size) := Lh (fun b o e hl => by
   subst e
   obtain ⟨y, r, rfl⟩ := List.exists_cons_of_ne_nil hl
   obtain ⟨b', o', e', hc⟩ := h3.rd 0 y rfl
   injection e' with e'
   injection e' with e1 e2
   subst e1
   exact lt_of_cell hc)
 have HG1 := Lh (HG.out.then_non hg1)
 have HAt1 := Lh (HAt.out.keep hg1 (fun e => e))
 clear h3 hg1 k0 k33 k34 k35 k36 HC HAt
 obtain ⟨b1, hb1⟩ : ∃ b, w.heap.size = b := ⟨_, rfl⟩
 rw [hb1] at HAt1
 go_wp2_with fail
 try rw [hb1]
 obtain ⟨V, hV⟩ : ∃ V, V = w1.drew := ⟨_, rfl⟩
 have HAtV : Hid (MfAt V b1 m (.slice A1 m.cfg.ws.length c1) (.slice A2 m.cfg.ps.length c2) (.slice A3 m.cfg.cs.length c3)) := Lh (by rw [hV]; exact HAt1.out.keep ((Chg.refl Non w1).drew) (fun e => e))
 have HGV : Hid (Chg Non w V) := Lh (by rw [hV]; exact HG1.out.drew)
 have HFV : Hid (Rd V A F) := Lh (by rw [hV]; exact HF.out)
 obtain ⟨B, hB⟩ : ∃ B, V.heap.size = B := ⟨_, rfl⟩
 have HBw : Hid (∀ b o, A = some ⟨b, o, none⟩ → F ≠ [] → b < B) := Lh (by rw [← hB, hV]; exact HFb.out)
 have HBe := Lh hB
 have hb1B : b1 < B := by rw [← hB]; exact lt_of_cell HAtV.out.c0
 have Hb1 := Lh hb1
 refine wp_region_held_drew (S := Chg (Nt (Upto B)) V) (by kernel_rfl) (by rw [hV]; exact Chg.refl _ _) (fun hHeld => ?_)
 clear hHeld
 rw [← hV]
 clear hV hB hb1 HAt1 HF HFb HG1
 have HS : Hid (Chg (Nt (Upto B)) V V) := Lh (Chg.refl _ _)
 have hnb : ¬ Nt (Upto B) b1 := fun h => h hb1B
 refine hp 1 12 (.pointer (some ⟨b1, 0, none⟩)) rfl HS.out ?_
 refine hp 2 13 (.int .i64 m.ver) rfl HS.out ?_ (he := fun W hW => by have hc := hW.cell_some HAtV.out.c0 hnb; go_simp)
 refine hp 4 15 (.pointer (some ⟨b1, 1, none⟩)) rfl HS.out ?_
 refine h_load 5 (some 16) 23 (.tmp 15) b1 1 (tagA m.prev) _ rfl (by kernel_rfl) (by kernel_rfl) (by kernel_rfl) rfl rfl (fun _ _ _ h => h) (by kernel_rfl) rfl (fun W hW => range_keepS HAtV.out.t1 hW hnb) Tryz.underlying23 rfl (by rw [tagA_size _ HPl.out]; exact info_tag') HS.out ?_
 try simp only [Act.put, sA, sB, sC]
 refine hp 7 18 (.pointer (some ⟨b1, 33, none⟩)) rfl HS.out ?_
 refine hp 8 19 (.int .i64 m.trial) rfl HS.out ?_ (he := fun W hW => by have hc := hW.cell_some HAtV.out.c33 hnb; go_simp)
 refine hp 10 21 (.slice A F.length k) rfl HS.out ?_
 have HN1 := Lh (NewWriter_N (Upto B) V (fun k hk => by have hk : k < B := hk; have := HBe.out; omega))
 rw [HBe.out] at HN1
 refine h1o 0 rfl ?_
 intro K hK
 go_simp
 refine (HN1.out).mono ?_
 rintro e u1 ⟨rfl, hwu1, hgu1⟩
 have HX := Lh hwu1
 have HS := Lh (HS.out.trans_same (Chg.of_non hgu1))
 refine hK.out _ _ HS.out (fun _ => ?_)
 clear hK K hwu1 hgu1
 try simp only [Act.put, sA, sB, sC]
 refine h1o 3 rfl ?_
 intro K hK
 go_simp
 refine (WInt_N (Upto B) B [] m.ver _ HX.out (by simp)).mono ?_
 rintro e u2 ⟨rfl, hwu2, hgu2⟩
 have HX := Lh hwu2
 have HS := Lh (HS.out.trans_same hgu2)
 refine hK.out _ _ HS.out (fun _ => ?_)
 clear hK K hwu2 hgu2
 try simp only [Act.put, sA, sB, sC]
 refine h1o 6 rfl ?_
 intro K hK
 go_simp
 refine (WTag_N (Upto B) B _ m.prev _ HPl.out HX.out (by have := HLn.out; simp only [List.length_append, be_length, HPl.out, List.length_nil]; omega)).mono ?_
 rintro e u3 ⟨rfl, hwu3, hgu3⟩
 have HX := Lh hwu3
 have HS := Lh (HS.out.trans_same hgu3)
 refine hK.out _ _ HS.out (fun _ => ?_)
 clear hK K hwu3 hgu3
 try simp only [Act.put, sA, sB, sC]
 refine h1o 9 rfl ?_
 intro K hK
 go_simp
 refine (WInt_N (Upto B) B _ m.trial _ HX.out (by have := HLn.out; simp only [List.length_append, be_length, HPl.out, List.length_nil]; omega)).mono ?_
 rintro e u4 ⟨rfl, hwu4, hgu4⟩
 have HX := Lh hwu4
 have HS := Lh (HS.out.trans_same hgu4)
 refine hK.out _ _ HS.out (fun _ => ?_)
 clear hK K hwu4 hgu4
 try simp only [Act.put, sA, sB, sC]
 refine h1o 11 rfl ?_
 intro K hK
 go_simp
 refine (WBytes_N (Upto B) B k _ F A _ HX.out (HFV.out.keep HS.out (fun b o e hl h => h (HBw.out b o e hl))) (by have := HLn.out; simp only [List.length_append, be_length, HPl.out, List.length_nil]; omega)).mono ?_
 rintro e u5 ⟨rfl, hwu5, hgu5⟩
 have HX := Lh hwu5
 have HS := Lh (HS.out.trans_same hgu5)
 refine hK.out _ _ HS.out (fun _ => ?_)
 clear hK K hwu5 hgu5
 try simp only [Act.put, sA, sB, sC]
 refine hp 12 2 (.pointer (some ⟨B, 0, none⟩)) rfl HS.out ?_
 refine hdn ?_ _
 rw [← HE.out] at HX
 go_wp2_with fail
 go_ret
 refine ⟨B, rfl, HX.out.less (fun k hk => ?_), HGV.out.then_new HS.out (fun x e => ?_)⟩
 ·have hk : k < w.heap.size := hk
  have := HGV.out.size
  have := HBe.out
  exact show k < B by omega
 ·have e : ¬ x < B := e
  have := HGV.out.size
  have := HBe.out
  omega
end
section
open Go.RowKit
theorem great26 (I : Nat → Prop) (bL : Nat) (X : Array Value) (c : Cfg) (A1 A2 A3 : Option Addr) (c1 c2 c3 : Nat) (w : World) (hL : w.heap[bL]? = some (.cells X 34 (0, 0)))
  (h37 : X[37]? = some (.slice A1 c.ws.length c1)) (h38 : X[38]? = some (.slice A2 c.ps.length c2)) (h39 : X[39]? = some (.slice A3 c.cs.length c3)) (h72 : X[72]? = some (.slice none 0 0)) (hc : CfgR I w c A1 A2 A3 c1 c2 c3) :
  Calls Tryz.prog 10 #[.slice (some ⟨bL, 0, none⟩) 1 1] w fun e w' => (∃ g : Bool, e = .returned (.bool g)) ∧ Chg Non w w' := by
 have k37 := blk_cell hL 37 h37
 have k38 := blk_cell hL 38 h38
 have k39 := blk_cell hL 39 h39
 have k72 := blk_cell hL 72 h72
 have HP := Lh hc.ps
 have hn1 : c.ws.length ≤ 9223372036854775807 := by have := hc.l1; unfold maxLen at this; omega
 have hn2 : c.ps.length ≤ 9223372036854775807 := by have := hc.l2; unfold maxLen at this; omega
 have hn3 : c.cs.length ≤ 9223372036854775807 := by have := hc.l3; unfold maxLen at this; omega
 clear hc hL h37 h38 h39 h72
 obtain ⟨n1, e1⟩ : ∃ n, c.ws.length = n := ⟨_, rfl⟩
 obtain ⟨n2, e2⟩ : ∃ n, c.ps.length = n := ⟨_, rfl⟩
 obtain ⟨n3, e3⟩ : ∃ n, c.cs.length = n := ⟨_, rfl⟩
 rw [e1] at k37 hn1
 rw [e2] at k38 hn2
 rw [e3] at k39 hn3
 have HE := Lh e2
 clear e1 e2 e3
 go_enter Tryz.func10, Tryz.ntmps10
 go_wp2_with fail
 refine wp_loop_rounds 2 ?_
 rw [rounds_succ]
 go_wp2_with fail
 go_loopw [3, 5] (fun v i wr => ∃ k : Nat, k ≤ n2 ∧ i = .int .i64 k ∧ (∃ z : Int, v = .int .i64 z) ∧ wr = w) (fun _ i _ => n2 - (intOf i).toNat)
 case atStart => exact ⟨0, by omega, rfl, ⟨_, rfl⟩, rfl⟩
 case round =>
  obtain ⟨k, hk, rfl, ⟨z, rfl⟩, rfl⟩ := hrel
  by_cases hlt : k < n2
  ·obtain ⟨blk, o, cs, hA, _, hcl, hcc, hpv⟩ := HP.out k (c.ps[k]'(by rw [HE.out]; exact hlt)) (List.getElem?_eq_getElem _)
   obtain ⟨m, rfl, ⟨B, cB, rfl, _, _, _, _⟩, _, _⟩ := hpv
   subst hA
   have kc := hcc 4 (.slice B (c.ps[k]'(by rw [HE.out]; exact hlt)).img.length cB) rfl
   obtain ⟨q, hq⟩ : ∃ q, (c.ps[k]'(by rw [HE.out]; exact hlt)).img.length = q := ⟨_, rfl⟩
   rw [hq] at kc
   clear hcc hcl hq
   have hd : decide ((k : Int) < (n2 : Int)) = true := by simpa using hlt
   go_wp2_with fail
   case roundEnd => exact ⟨⟨k + 1, by omega, by simp, ⟨_, rfl⟩, trivial⟩, by simp [intOf]; omega⟩
  ·obtain rfl : k = n2 := by omega
   go_wp2_with fail
   obtain ⟨y1, hy1⟩ : ∃ x : Int, IntKind.i64.wrap (20 * (n1 : Int)) = x := ⟨_, rfl⟩
   have gy1 : wrap64 (20 * (n1 : Int)) = y1 := by rw [← hy1]; exact (Go.IntWalk.i64_left _).symm
   obtain ⟨y2, hy2⟩ : ∃ x : Int, IntKind.i64.wrap (z + y1) = x := ⟨_, rfl⟩
   have gy2 : wrap64 (z + y1) = y2 := by rw [← hy2]; exact (Go.IntWalk.i64_left _).symm
   obtain ⟨y3, hy3⟩ : ∃ x : Int, IntKind.i64.wrap (50 * (n3 : Int)) = x := ⟨_, rfl⟩
   have gy3 : wrap64 (50 * (n3 : Int)) = y3 := by rw [← hy3]; exact (Go.IntWalk.i64_left _).symm
   obtain ⟨y4, hy4⟩ : ∃ x : Int, IntKind.i64.wrap (y2 + y3) = x := ⟨_, rfl⟩
   have gy4 : wrap64 (y2 + y3) = y4 := by rw [← hy4]; exact (Go.IntWalk.i64_left _).symm
   refine wp_region_held_drew (S := Chg Non wr.drew) (by kernel_rfl) (Chg.refl _ _) (fun _ => ?_)
   refine hp 0 48 (.int .i64 z) rfl (Chg.refl _ _) ?_
   refine hp 1 49 (.slice (some ⟨bL, 0, none⟩) 1 1) rfl (Chg.refl _ _) ?_
   refine hp 2 50 (.int .i64 0) rfl (Chg.refl _ _) ?_
   refine hp 3 51 (.pointer (some ⟨bL, 0, none⟩)) rfl (Chg.refl _ _) ?_
   refine hp 4 52 (.pointer (some ⟨bL, 3, none⟩)) rfl (Chg.refl _ _) ?_
   refine hp 5 53 (.pointer (some ⟨bL, 37, none⟩)) rfl (Chg.refl _ _) ?_
   refine hp 6 54 (.pointer (some ⟨bL, 37, none⟩)) rfl (Chg.refl _ _) ?_
   refine hp 7 55 (.slice A1 n1 c1) rfl (Chg.refl _ _) ?_ (he := (fun w e => by have := e.cell_some k37 (fun e => e); go_simp))
   refine hp 8 56 (.int .i64 (n1 : Int)) rfl (Chg.refl _ _) ?_
   refine hp 9 57 (.int .i64 y1) rfl (Chg.refl _ _) ?_
   refine hp 10 58 (.int .i64 y2) rfl (Chg.refl _ _) ?_
   refine hp 11 59 (.slice (some ⟨bL, 0, none⟩) 1 1) rfl (Chg.refl _ _) ?_
   refine hp 12 60 (.int .i64 0) rfl (Chg.refl _ _) ?_
   refine hp 13 61 (.pointer (some ⟨bL, 0, none⟩)) rfl (Chg.refl _ _) ?_
   refine hp 14 62 (.pointer (some ⟨bL, 3, none⟩)) rfl (Chg.refl _ _) ?_
   refine hp 15 63 (.pointer (some ⟨bL, 37, none⟩)) rfl (Chg.refl _ _) ?_
   refine hp 16 64 (.pointer (some ⟨bL, 39, none⟩)) rfl (Chg.refl _ _) ?_
   refine hp 17 65 (.slice A3 n3 c3) rfl (Chg.refl _ _) ?_ (he := (fun w e => by have := e.cell_some k39 (fun e => e); go_simp))
   refine hp 18 66 (.int .i64 (n3 : Int)) rfl (Chg.refl _ _) ?_
   refine hp 19 67 (.int .i64 y3) rfl (Chg.refl _ _) ?_
   refine hp 20 68 (.int .i64 y4) rfl (Chg.refl _ _) ?_
   refine hp 21 3 (.int .i64 y4) rfl (Chg.refl _ _) ?_
   refine hdn ?_ _
   by_cases hbig : 12000 < y4
   ·have hd : decide (12000 < y4) = true := by simpa using hbig
    go_wp2_with fail
    go_ret
    exact ⟨⟨_, rfl⟩, (Chg.refl Non _).drew⟩
   ·have hd : decide (12000 < y4) = false := by simpa using hbig
    go_wp2_with fail
    rw [rounds_succ]
    go_wp2_with fail
    go_ret
    exact ⟨⟨_, rfl⟩, (Chg.refl Non _).drew⟩
end
section
open Go.RowKit
end
section
open Go.RowKit
end
section
open Go.RowKit
end
section
open Go.RowKit
end
section
open Go.RowKit
end
section
open Go.RowKit
end
section
open Go.RowKit
structure Rec where
 seqn : Int
 slot : Int
 len : Int
 trial : Bool
 hash : List UInt8
def Rec.zero : Rec := ⟨0, 0, 0, false, zTag⟩
def Rec.may (r : Rec) : Bool := decide (1 ≤ r.seqn) && (decide (r.slot = 0) || decide (r.slot = 1)) && decide (1 ≤ r.len) && decide (r.len ≤ 4096)
def recA (r : Rec) : Array Value := #[.int .i64 r.seqn, .int .i64 r.slot, .int .i64 r.len, .bool r.trial] ++ tagA r.hash
theorem recA_0 (r : Rec) : (recA r)[0]? = some (.int .i64 r.seqn) := by unfold recA; rw [Array.getElem?_append_left (by simp)]; rfl
theorem recA_1 (r : Rec) : (recA r)[1]? = some (.int .i64 r.slot) := by unfold recA; rw [Array.getElem?_append_left (by simp)]; rfl
theorem recA_2 (r : Rec) : (recA r)[2]? = some (.int .i64 r.len) := by unfold recA; rw [Array.getElem?_append_left (by simp)]; rfl
theorem recA_size (r : Rec) (h : r.hash.length = 32) : (recA r).size = 36 := by unfold recA; rw [Array.size_append, tagA_size _ h]; rfl
theorem recA_one (r : Rec) : (recA r).all (·.oneCell') = true := by
 unfold recA
 rw [Array.all_append, tagA_one, Bool.and_true]
 simp [Value.oneCell']
def recZ : Array Value := recA Rec.zero
theorem recZ_size : recZ.size = 36 := recA_size _ zTag_len
theorem recZ_one : recZ.all (·.oneCell') = true := recA_one _
theorem info_rec : (Tryz.prog.info? 46).map (·.size) = some 36 := by kernel_rfl
theorem May_any (r : Rec) (w : World) : Calls Tryz.prog 55 #[.agg (recA r)] w fun e w' => e = .returned (.bool r.may) ∧ Chg Non w w' := by
 have r0 := recA_0 r
 have r1 := recA_1 r
 have r2 := recA_2 r
 have hm : r.may = (decide (1 ≤ r.seqn) && (decide (r.slot = 0) || decide (r.slot = 1)) && decide (1 ≤ r.len) && decide (r.len ≤ 4096)) := rfl
 obtain ⟨X, hX⟩ : ∃ X, recA r = X := ⟨_, rfl⟩
 obtain ⟨y, hy⟩ : ∃ y, r.may = y := ⟨_, rfl⟩
 rw [hX] at r0 r1 r2 ⊢
 rw [hy] at hm ⊢
 clear hX hy
 obtain ⟨sq, sl, ln, tr, hs⟩ := r
 simp only at r0 r1 r2 hm
 have e2 : decide (sl = 0) = (sl == 0) := rfl
 have e3 : decide (sl = 1) = (sl == 1) := rfl
 rw [e2, e3] at hm
 clear e2 e3
 obtain ⟨b1, h1⟩ : ∃ b, decide (1 ≤ sq) = b := ⟨_, rfl⟩
 obtain ⟨b2, h2⟩ : ∃ b, (sl == 0) = b := ⟨_, rfl⟩
 obtain ⟨b3, h3⟩ : ∃ b, (sl == 1) = b := ⟨_, rfl⟩
 obtain ⟨b4, h4⟩ : ∃ b, decide (1 ≤ ln) = b := ⟨_, rfl⟩
 obtain ⟨b5, h5⟩ : ∃ b, decide (ln ≤ 4096) = b := ⟨_, rfl⟩
 rw [h1, h2, h3, h4, h5] at hm
 subst hm
 cases b1 <;> cases b2 <;> cases b3 <;> cases b4 <;> cases b5
 all_goals
  go_enter Tryz.func55, Tryz.ntmps55
  go_wp2
  go_ret
  exact ⟨rfl, (Chg.refl _ _).alloc _⟩
end
section
open Go.RowKit
end
end Go.Proofs.YtajkajgifigmbaaGreat
