/- Walks of package frame. -/
import Derived.Test.YthhbdejagglgbaaGreatCrcP
import Derived.Laws.EntriesVeiled
namespace Go.Proofs.YthhbdejagglgbaaGreat
open Go.RowKit
set_option linter.unusedVariables false

/-- the bytes of a frame -/
def sealL (kind : UInt8) (b : List UInt8) : List UInt8 := crcPut ([kind, UInt8.ofNat b.length] ++ b ++ List.replicate (58 - b.length) 0)

def sizeL (s : List UInt8) : Nat := (s.getD 1 0).toNat

/-- is it a frame? -/
def wholeL (s : List UInt8) : Bool :=
  decide (s.length = 64) && (crcOk s && (decide (sizeL s ≤ 58) && decide ((s.drop (2 + sizeL s)).take (60 - (2 + sizeL s)) = List.replicate (60 - (2 + sizeL s)) 0)))

/-- a call hands back new bytes of its own, and one more value -/
def RetB2 (w : World) (l : List UInt8) (v : Value) (e : Ending) (w' : World) : Prop :=
  ∃ A c, e = .returned (.tuple #[.slice A l.length c, v]) ∧ l.length ≤ c ∧ c ≤ maxLen ∧ Own w.heap.size w' A l ∧ Chg Non w w'

theorem zeros_own (w : World) (n : Nat) (t : TypeId) : Own w.heap.size (w.alloc (.cells (Array.replicate n (.int .u8 0)) t)) (some ⟨w.heap.size, 0, none⟩) (List.replicate n 0) :=
  own_new _ _ _ _ (by simp [bv])

set_option maxRecDepth 100000 in
set_option maxHeartbeats 2000000 in
theorem Seal_any (kind : UInt8) (A : Option Addr) (l : List UInt8) (cap : Nat) (w : World) (hr : Rd w A l) (hl : l.length ≤ 58) :
    Calls Tryz.prog 62 #[.int .u8 (kind.toNat : Int), .slice A l.length cap] w (RetB2 w (sealL kind l) (.int .i64 0)) := by
  have hmk := fun W => mk_bytes (58 - (l.length : Int)) (by omega) (by omega) W
  have e1 : (58 - (l.length : Int)).toNat = 58 - l.length := by omega
  rw [e1] at hmk
  have e2 : ((58 - l.length : Nat) : Int) = 58 - (l.length : Int) := by omega
  clear e1 e2
  go_enter Tryz.func62, Tryz.ntmps62
  go_wp2_with fail
  have o1 : Own w.heap.size (w.alloc (.cells #[.int .u8 (kind.toNat : Int), .int .u8 (l.length : Int)] 5)) (some ⟨w.heap.size, 0, none⟩) [kind, UInt8.ofNat l.length] :=
    own_new _ _ _ _ (by simp [bv, Nat.mod_eq_of_lt (show l.length < 256 by omega)])
  have o3 := zeros_own (w.alloc (.cells #[.int .u8 (kind.toNat : Int), .int .u8 (l.length : Int)] 5)) (58 - l.length) 5
  simp only [World.size_alloc] at o3
  have hz : (List.replicate (58 - l.length) (0 : UInt8)).length = 58 - l.length := by simp
  have hc := fun t W g hg h1 h2 h3 => Cat3 (some ⟨w.heap.size, 0, none⟩) A (some ⟨w.heap.size + 1, 0, none⟩) [kind, UInt8.ofNat l.length] l (List.replicate (58 - l.length) 0) 2 cap (58 - l.length) t W g hg h1 h2 h3
    (by simp; omega) _ rfl
  rw [hz] at hc
  refine (hc _ _ _ (by simp) (o1.rd.non ((Chg.refl _ _).alloc _)) (hr.non (((Chg.refl _ _).alloc _).alloc _)) o3.rd).mono ?_
  clear hc o1 o3 hz hmk
  rintro e w1 h1
  have h2 := h1.from (((Chg.refl Non w).alloc _).alloc _)
  clear h1
  have hlen : ([kind, UInt8.ofNat l.length] ++ l ++ List.replicate (58 - l.length) 0).length = 60 := by simp; omega
  have hs : crcPut ([kind, UInt8.ofNat l.length] ++ l ++ List.replicate (58 - l.length) 0) = sealL kind l := rfl
  generalize [kind, UInt8.ofNat l.length] ++ l ++ List.replicate (58 - l.length) 0 = m at *
  obtain ⟨A1, c1, rfl, hc1, hm1, ho1, hg1⟩ := h2
  have HS := Lib.hid hs
  clear hs
  have hlen' : m.length ≤ 60 := by omega
  have HL := Lib.hid hlen
  clear hlen
  go_wp2_with fail
  refine (crcPut_any A1 m c1 w1 ho1.rd (by omega)).mono ?_
  rintro e w2 ⟨A2, c2, rfl, hc2, hm2, ho2, hg2⟩
  go_wp2
  go_ret2
  rw [← HS.out]
  exact ⟨A2, c2, rfl, hc2, hm2, ho2.mono hg1.size, hg1.then_non hg2⟩

set_option maxRecDepth 100000 in
set_option maxHeartbeats 2000000 in
theorem size_any (A : Option Addr) (l : List UInt8) (cap : Nat) (w : World) (hr : Rd w A l) (hl : 2 ≤ l.length) (hm : l.length ≤ 64) :
    Calls Tryz.prog 83 #[.slice A l.length cap] w fun e w' => e = .returned (.int .i64 (sizeL l : Nat)) ∧ w = w' := by
  obtain ⟨b, o, rfl, hb, hc⟩ := hr.at_ (by omega)
  have h1 := hc 1 (by omega)
  have hs : (l[1]'(by omega)).toNat = sizeL l := by simp [sizeL, List.getD, List.getElem?_eq_getElem (show 1 < l.length by omega)]
  rw [hs] at h1
  have hlt : sizeL l < 256 := by rw [← hs]; exact UInt8.toNat_lt _
  clear hc hs
  go_enter Tryz.func83, Tryz.ntmps83
  go_wp2
  go_ret
  exact ⟨rfl, rfl⟩

set_option maxRecDepth 100000 in
set_option maxHeartbeats 2000000 in
theorem whole1 (p : Nat) (A : Option Addr) (l : List UInt8) (cap : Nat) (w : World) (hp : w.cell? ⟨p, 0, none⟩ = some (.slice A l.length cap)) :
    Calls Tryz.prog 119 #[.pointer (some ⟨p, 0, none⟩)] w fun e w' => e = .returned (.bool (decide (l.length = 64))) ∧ w = w' := by
  by_cases h : l.length = 64
  · have hd : ((l.length : Int) == 64) = true := by simp; omega
    rw [decide_eq_true h]
    clear h
    go_enter Tryz.func119, Tryz.ntmps119
    go_wp2
    go_ret
    exact ⟨rfl, rfl⟩
  · have hd : ((l.length : Int) == 64) = false := by simp; omega
    rw [decide_eq_false h]
    clear h
    go_enter Tryz.func119, Tryz.ntmps119
    go_wp2
    go_ret
    exact ⟨rfl, rfl⟩

set_option maxRecDepth 100000 in
set_option maxHeartbeats 2000000 in
theorem whole2 (p : Nat) (A : Option Addr) (l : List UInt8) (cap : Nat) (w : World) (hp : w.cell? ⟨p, 0, none⟩ = some (.slice A l.length cap)) (hr : Rd w A l) (h64 : 64 ≤ l.length) (hl : l.length ≤ 64)
    (hcap : l.length ≤ cap) (hm : cap ≤ maxLen) :
    Calls Tryz.prog 120 #[.pointer (some ⟨p, 0, none⟩)] w fun e w' => e = .returned (.bool (crcOk l)) ∧ Chg Non w w' := by
  go_enter Tryz.func120, Tryz.ntmps120
  go_wp2_with fail
  refine (Check_any A l cap w hr (by omega) (by omega) hcap hm).mono ?_
  rintro e w1 ⟨⟨v, rfl⟩, hg⟩
  go_wp2
  go_ret
  exact ⟨rfl, hg⟩

set_option maxRecDepth 100000 in
set_option maxHeartbeats 2000000 in
theorem whole3 (p : Nat) (A : Option Addr) (l : List UInt8) (cap : Nat) (w : World) (hp : w.cell? ⟨p, 0, none⟩ = some (.slice A l.length cap)) (hr : Rd w A l) (h64 : 64 ≤ l.length) (hl : l.length ≤ 64) :
    Calls Tryz.prog 122 #[.pointer (some ⟨p, 0, none⟩)] w fun e w' => e = .returned (.bool (decide (sizeL l ≤ 58))) ∧ w = w' := by
  have e : decide (sizeL l ≤ 58) = decide ((sizeL l : Int) ≤ 58) := by simp; omega
  rw [e]
  clear e
  go_enter Tryz.func122, Tryz.ntmps122
  go_wp2_with fail
  refine (size_any A l cap w hr (by omega) hl).mono ?_
  rintro e w1 ⟨rfl, rfl⟩
  go_wp2
  go_ret
  exact ⟨rfl, rfl⟩

set_option maxRecDepth 100000 in
set_option maxHeartbeats 2000000 in
theorem whole4 (p : Nat) (A : Option Addr) (l : List UInt8) (cap : Nat) (w : World) (hp : w.cell? ⟨p, 0, none⟩ = some (.slice A l.length cap)) (hr : Rd w A l) (h64 : 64 ≤ l.length) (hl : l.length ≤ 64)
    (hcap : l.length ≤ cap) (hm : cap ≤ maxLen) (h58 : sizeL l ≤ 58) :
    Calls Tryz.prog 123 #[.pointer (some ⟨p, 0, none⟩)] w fun e w' => e = .returned (.bool (decide ((l.drop (2 + sizeL l)).take (60 - (2 + sizeL l)) = List.replicate (60 - (2 + sizeL l)) 0))) ∧ Chg Non w w' := by
  have hs := fun W h => size_any A l cap W h (by omega) hl
  obtain ⟨z, hz⟩ : ∃ z, sizeL l = z := ⟨_, rfl⟩
  rw [hz] at hs h58 ⊢
  unfold maxLen at hm
  clear hz
  obtain ⟨b, o, rfl, hb, hcell⟩ := hr.at_ (by omega)
  clear hcell
  have i1 : IntKind.i64.wrap (2 + (z : Int)) = 2 + (z : Int) := IntWalk.i64_in _ (by omega)
  have i2 : (0 : Int) ≤ 2 + (z : Int) := by omega
  have i3 : (2 + (z : Int)).toNat = 2 + z := by omega
  have hmk := fun W => mk_bytes ((60 - (2 + z) : Nat) : Int) (by omega) (by omega) W
  simp only [Int.toNat_natCast] at hmk
  have hS := fun B d W h k => Same_any (some ⟨b, o + (2 + z), none⟩) B ((l.drop (2 + z)).take (60 - (2 + z))) (List.replicate (60 - (2 + z)) 0) (cap - (2 + z)) d W h k
  have hl1 : ((l.drop (2 + z)).take (60 - (2 + z))).length = 60 - (2 + z) := by rw [List.length_take, List.length_drop]; omega
  rw [hl1, List.length_replicate] at hS
  clear hl1
  go_enter Tryz.func123, Tryz.ntmps123
  go_wp2_with fail
  go_quiet ((go_at_call 83; exact quiet_left (hs _ hr)))
  go_wp2_with fail
  refine (hS _ _ _ (by exact (((hr.drop (2 + z)).take (60 - (2 + z))).drewN nq).non ((Chg.refl _ _).alloc _)) (by exact (zeros_own (w.drewN nq) (60 - (2 + z)) 5).rd)).mono ?_
  rintro e w2 ⟨rfl, rfl⟩
  go_wp2
  go_ret
  exact ⟨rfl, ((Chg.refl _ _).drewN nq).alloc _⟩

set_option maxRecDepth 100000 in
set_option maxHeartbeats 2000000 in
theorem whole_any (A : Option Addr) (l : List UInt8) (cap : Nat) (w : World) (hr : Rd w A l) (h64 : 64 ≤ l.length) (hl : l.length ≤ 64) (hcap : l.length ≤ cap) (hm : cap ≤ maxLen) :
    Calls Tryz.prog 106 #[.slice A l.length cap] w fun e w' => e = .returned (.bool (wholeL l)) ∧ Chg Non w w' := by
  have x0 : ∀ (f1 f2 f3 f4 : Value) (W : World), (Instr.index 151 (.agg #[f1, f2, f3, f4]) (.int .i64 0)).run Tryz.prog W = .ok f1 W := fun _ _ _ _ _ => by kernel_rfl
  have x1 : ∀ (f1 f2 f3 f4 : Value) (W : World), (Instr.index 151 (.agg #[f1, f2, f3, f4]) (.int .i64 1)).run Tryz.prog W = .ok f2 W := fun _ _ _ _ _ => by kernel_rfl
  have x2 : ∀ (f1 f2 f3 f4 : Value) (W : World), (Instr.index 151 (.agg #[f1, f2, f3, f4]) (.int .i64 2)).run Tryz.prog W = .ok f3 W := fun _ _ _ _ _ => by kernel_rfl
  have x3 : ∀ (f1 f2 f3 f4 : Value) (W : World), (Instr.index 151 (.agg #[f1, f2, f3, f4]) (.int .i64 3)).run Tryz.prog W = .ok f4 W := fun _ _ _ _ _ => by kernel_rfl
  have hp0 : ∀ o, ((w.alloc (.cells #[.slice A l.length cap] 29)).alloc o).cell? ⟨w.heap.size, 0, none⟩ = some (.slice A l.length cap) := fun o => by
    simp only [World.cell?]; rw [heap_alloc2_old]; rfl
  have HP := Lib.hid hp0
  clear hp0
  have hW : wholeL l = (crcOk l && (decide (sizeL l ≤ 58) && decide ((l.drop (2 + sizeL l)).take (60 - (2 + sizeL l)) = List.replicate (60 - (2 + sizeL l)) 0))) := by
    unfold wholeL
    rw [decide_eq_true (show l.length = 64 by omega)]
    rfl
  have HW := Lib.hid hW
  clear hW
  have h64d : decide (l.length = 64) = true := decide_eq_true (by omega)
  have H64 := Lib.hid h64d
  clear h64d
  have w1 := fun W h => whole1 w.heap.size A l cap W h
  rw [H64.out] at w1
  have w2 := fun W h k => whole2 w.heap.size A l cap W h k h64 hl hcap hm
  have w3 := fun W h k => whole3 w.heap.size A l cap W h k h64 hl
  have w4 := fun W h k z => whole4 w.heap.size A l cap W h k h64 hl hcap hm z
  have hsz : ∀ o, ((w.alloc (.cells #[.slice A l.length cap] 29)).alloc o).heap.size = w.heap.size + 1 + 1 := fun o => by simp
  have HSz := Lib.hid hsz
  clear hsz
  obtain ⟨zb, hz⟩ : ∃ zb, decide ((l.drop (2 + sizeL l)).take (60 - (2 + sizeL l)) = List.replicate (60 - (2 + sizeL l)) 0) = zb := ⟨_, rfl⟩
  rw [hz] at w4 HW
  clear hz
  have hs3 : decide (sizeL l ≤ 58) = true ∨ decide (sizeL l ≤ 58) = false := by cases decide (sizeL l ≤ 58) <;> simp
  have hs4 : decide (sizeL l ≤ 58) = true → sizeL l ≤ 58 := fun h => of_decide_eq_true h
  obtain ⟨sb, hs⟩ : ∃ sb, decide (sizeL l ≤ 58) = sb := ⟨_, rfl⟩
  rw [hs] at w3 HW hs3 hs4
  clear hs
  obtain ⟨cb, hc⟩ : ∃ cb, crcOk l = cb := ⟨_, rfl⟩
  rw [hc] at w2 HW
  clear hc
  rw [HW.out]
  have W1 := Lib.hid w1
  have W2 := Lib.hid w2
  have W3 := Lib.hid w3
  have W4 := Lib.hid w4
  clear w1 w2 w3 w4
  cases cb with
  | false =>
    go_enter Tryz.func106, Tryz.ntmps106
    go_wp2_with fail
    refine wp_loop_rounds 5 ?_
    rw [rounds_succ]
    go_wp2_with fail
    refine (W1.out _ (HP.out _)).mono ?_
    rintro e w' ⟨rfl, rfl⟩
    go_wp2
    rw [rounds_succ]
    go_wp2_with fail
    refine (W2.out _ (HP.out _) (hr.non (((Chg.refl _ _).alloc _).alloc _))).mono ?_
    rintro e w' ⟨rfl, hg⟩
    go_wp2
    go_ret
    exact ⟨rfl, (((Chg.refl _ _).alloc _).alloc _).then_non hg⟩
  | true =>
    rcases hs3 with rfl | rfl
    · have hz58 := hs4 rfl
      clear hs4
      cases zb with
      | true =>
        go_enter Tryz.func106, Tryz.ntmps106
        go_wp2_with fail
        refine wp_loop_rounds 5 ?_
        rw [rounds_succ]
        go_wp2_with fail
        refine (W1.out _ (HP.out _)).mono ?_
        rintro e w' ⟨rfl, rfl⟩
        go_wp2
        rw [rounds_succ]
        go_wp2_with fail
        refine (W2.out _ (HP.out _) (hr.non (((Chg.refl _ _).alloc _).alloc _))).mono ?_
        rintro e w' ⟨rfl, hg⟩
        have hgw := (((Chg.refl Non w).alloc (.cells #[.slice A l.length cap] 29)).alloc _).then_non hg
        have hcw := hg.cell_some (HP.out _) (fun e => e)
        clear hg
        go_wp2
        rw [rounds_succ]
        go_wp2_with fail
        refine (W3.out _ hcw (hr.non hgw)).mono ?_
        rintro e w'' ⟨rfl, rfl⟩
        go_wp2
        rw [rounds_succ]
        go_wp2_with fail
        refine (W4.out _ hcw (hr.non hgw) hz58).mono ?_
        rintro e w2 ⟨rfl, hg2⟩
        go_wp2
        rw [rounds_succ]
        go_wp2
        go_ret
        exact ⟨rfl, hgw.then_non hg2⟩
      | false =>
        go_enter Tryz.func106, Tryz.ntmps106
        go_wp2_with fail
        refine wp_loop_rounds 5 ?_
        rw [rounds_succ]
        go_wp2_with fail
        refine (W1.out _ (HP.out _)).mono ?_
        rintro e w' ⟨rfl, rfl⟩
        go_wp2
        rw [rounds_succ]
        go_wp2_with fail
        refine (W2.out _ (HP.out _) (hr.non (((Chg.refl _ _).alloc _).alloc _))).mono ?_
        rintro e w' ⟨rfl, hg⟩
        have hgw := (((Chg.refl Non w).alloc (.cells #[.slice A l.length cap] 29)).alloc _).then_non hg
        have hcw := hg.cell_some (HP.out _) (fun e => e)
        clear hg
        go_wp2
        rw [rounds_succ]
        go_wp2_with fail
        refine (W3.out _ hcw (hr.non hgw)).mono ?_
        rintro e w'' ⟨rfl, rfl⟩
        go_wp2
        rw [rounds_succ]
        go_wp2_with fail
        refine (W4.out _ hcw (hr.non hgw) hz58).mono ?_
        rintro e w2 ⟨rfl, hg2⟩
        go_wp2
        go_ret
        exact ⟨rfl, hgw.then_non hg2⟩
    · clear hs4
      go_enter Tryz.func106, Tryz.ntmps106
      go_wp2_with fail
      refine wp_loop_rounds 5 ?_
      rw [rounds_succ]
      go_wp2_with fail
      refine (W1.out _ (HP.out _)).mono ?_
      rintro e w' ⟨rfl, rfl⟩
      go_wp2
      rw [rounds_succ]
      go_wp2_with fail
      refine (W2.out _ (HP.out _) (hr.non (((Chg.refl _ _).alloc _).alloc _))).mono ?_
      rintro e w' ⟨rfl, hg⟩
      have hgw := (((Chg.refl Non w).alloc (.cells #[.slice A l.length cap] 29)).alloc _).then_non hg
      have hcw := hg.cell_some (HP.out _) (fun e => e)
      clear hg
      go_wp2
      rw [rounds_succ]
      go_wp2_with fail
      refine (W3.out _ hcw (hr.non hgw)).mono ?_
      rintro e w'' ⟨rfl, rfl⟩
      go_wp2
      go_ret
      exact ⟨rfl, hgw⟩
end Go.Proofs.YthhbdejagglgbaaGreat
