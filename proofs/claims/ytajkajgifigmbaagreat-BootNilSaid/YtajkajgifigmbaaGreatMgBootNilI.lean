/- BootNil, part 9 of 14: contracts of the functions that it reaches, and the laws that they need, merged and shortened (from my texts XRgF, XShP, XHmP, XCut, XInR). -/
import Derived.Test.YtajkajgifigmbaaGreatMgBootNilA
import Derived.Test.YtajkajgifigmbaaGreatMgBootNilB
import Derived.Test.YtajkajgifigmbaaGreatMgBootNilE
import Derived.Test.YtajkajgifigmbaaGreatMgBootNilF
import Derived.Test.YtajkajgifigmbaaGreatMgBootNilG
import Derived.RangeFuncNested
import Derived.OrdersIn
import Derived.ControlIn
import Derived.TacticsIn
import Derived.RangeFuncCalls
namespace Go.Proofs.YtajkajgifigmbaaGreat
set_option linter.unusedVariables false
set_option linter.unusedSimpArgs false
set_option maxHeartbeats 8000000
set_option maxRecDepth 100000
section
open Go.RowKit
def AbX {β : Type} (Bx : Nat → Prop) (b : Nat) (J : β → World → Prop) : Prop :=
 ∀ s W W' row, J s W → W.grownBy W' row → (∀ r, row = some r → Bx r ∧ r < b) → J s W'
def AbY {β : Type} (Bx : Nat → Prop) (b : Nat) (J : β → World → Prop) : Prop :=
 ∀ s W W' row, J s W → W.grownBy W' row → (∀ r, row = some r → (Bx r ∧ r < b) ∨ (b ≤ r ∧ ∃ o : Obj, W.heap[r]? = some o ∧ o.isCells = false)) → J s W'
section
variable {F : Fence} {n : Nat} {P : Program} {α : Type}
theorem AbY.x {β : Type} {Bx : Nat → Prop} {b : Nat} {J : β → World → Prop} (h : AbY Bx b J) : AbX Bx b J := fun s W W' row hs hg hr => h s W W' row hs hg (fun r e => .inl (hr r e))
theorem AbY.alloc {β : Type} {Bx : Nat → Prop} {b : Nat} {J : β → World → Prop} (h : AbY Bx b J) {s : β} {W : World} (o : Obj) (hs : J s W) : J s (W.alloc o) :=
 h s W _ none hs (World.grownBy_alloc W o none) (fun r e => by cases e)
theorem AbY.putObj {β : Type} {Bx : Nat → Prop} {b : Nat} {J : β → World → Prop} (h : AbY Bx b J) {s : β} {W : World} {l : Nat} {o : Obj} (o' : Obj) (hs : J s W) (hb : b ≤ l) (hl : W.heap[l]? = some o) (ho : o.isCells = false) : J s (W.putObj l o') :=
 h s W _ (some l) hs (grownBy_putObj' W l o') (fun r e => by cases e; exact .inr ⟨hb, o, hl, ho⟩)
theorem AbX.blk {Bx : Nat → Prop} {b k : Nat} {o : Obj} (hk : b ≤ k) : AbX Bx b (fun (_ : List α) W => W.heap[k]? = some o) := fun s W W' row hs hg hr =>
 (hg.block k (Array.getElem?_eq_some_iff.1 hs).1 (fun e => by have := (hr k e.symm).2; omega)).trans hs
theorem AbX.and {β : Type} {Bx : Nat → Prop} {b : Nat} {J K : β → World → Prop} (h : AbX Bx b J) (k : AbX Bx b K) : AbX Bx b (fun s W => J s W ∧ K s W) := fun s W W' row hs hg hr => ⟨h s W W' row hs.1 hg hr, k s W W' row hs.2 hg hr⟩
def SeqX (F : Fence) (n : Nat) (P : Program) (g : Nat) (lb : Array Value) (encs : α → Array Value) (Kp : World → World → Prop) (Bx : Nat → Prop) (S Sp : List α → Prop) (N : Nat) (w : World) : Prop :=
 ∀ (l : Nat) (J Jx : List α → World → Prop) (W : World), Below w.heap.size w W → AbX Bx w.heap.size J → AbX Bx w.heap.size Jx →
  (∀ pre x W1, J pre W1 → pre.length < N → YieldAt F (n - 1) P l (encs x) W1 fun e W' =>
    (e = .returned (.bool true) ∧ J (pre ++ [x]) W' ∧ Kp W1 W') ∨ (e = .returned (.bool false) ∧ Jx (pre ++ [x]) W' ∧ Kp W1 W')) →
  J [] W →
  CallsIn F n P g (#[.func (.yield l) #[] #[]] ++ lb) W fun e W' => (∃ v, e = .returned v) ∧ ((∃ xs, S xs ∧ J xs W') ∨ (∃ pre, Sp pre ∧ Jx pre W'))
theorem wpIn_rangeX {g : Operand} {ps : Array Tmp} {assign body : Code} {Q : Exit → Act → World → Prop} {a : Act} {w : World}
  (hro : F.round = none) (h1 : 1 ≤ n) {gf : Nat} {lb : Array Value} (hg : a.eval g = .func (.func gf) #[] lb) (hFg : F.fn gf) (eg : ∀ args w, (callFunc gf args).run P w = .ok (.enter gf args) w)
  {encs : α → Array Value} {Kp : World → World → Prop} {Bx : Nat → Prop} {S Sp : List α → Prop} {N : Nat} (hseq : SeqX F (n - 1) P gf lb encs Kp Bx S Sp N w)
  (hKt : ∀ {A B C : World}, Kp A B → Kp B C → Kp A C) (hKb : ∀ (W : World) (l : Nat) (o o' : Obj), w.heap.size ≤ l → W.heap[l]? = some o → o.isCells = false → Kp W (W.putObj l o')) (hps : ∀ x, (encs x).size = ps.size)
  (I Ix : List α → World → Prop) (hI : AbY Bx w.heap.size I) (hIx : AbY Bx w.heap.size Ix) (h0 : I [] w) (a₁ : α → Act)
  (hassign : ∀ (l : Nat) (x : α) (W : World) (K : Act → World → Prop), K (a₁ x) W →
    assign.wpIn (F.inRound l) (n - 1 - 1) P (Exit.then K (fun _ _ _ => False)) { tmps := (ps.zip (encs x)).foldl (fun t (p, v) => t.setIfInBounds p v) a.tmps, defers := [] } W)
  (hbody : ∀ (l : Nat) (pre : List α) (x : α) (W : World), w.heap.size ≤ l → (∃ r, W.heap[l]? = some (.loop r)) → I pre W → pre.length < N →
    body.wpIn (F.inRound l) (n - 1 - 1) P (fun e _ W' => match e with | .normal => KeepsFrom w.heap.size W W' ∧ Kp W W' ∧ I (pre ++ [x]) W' | .ret => KeepsFrom w.heap.size W W' ∧ Kp W W' ∧ Ix (pre ++ [x]) W' | _ => False) (a₁ x) W)
  (hdone : ∀ (D : Nat) (xs : List α) (W : World), w.heap.size ≤ D → S xs → I xs W → W.heap[D]? = some (.deferred (some [])) → Q .normal { a with defers := { target := .collected D, args := #[] } :: a.defers } W)
  (hstop : ∀ (D : Nat) (pre : List α) (W : World), w.heap.size ≤ D → Sp pre → Ix pre W → W.heap[D]? = some (.deferred (some [])) → Code.ret.wpIn F n P Q { a with defers := { target := .collected D, args := #[] } :: a.defers } W) :
  (Code.rangeFunc g ps assign body).wpIn F n P Q a w := by
 refine wpIn_rangeFunc ?_
 intro fn hfn
 rw [hro]
 obtain ⟨rc, hrc⟩ : ∃ rc : LoopState → Option Code → Loop, rc = fun st pe => { state := st, pending := pe, fn, tmps := a.tmps, params := ps, assign, body, defers := w.heap.size } := ⟨_, rfl⟩
 obtain ⟨d, hd⟩ : ∃ d, w.heap.size = d := ⟨_, rfl⟩
 obtain ⟨V, hV⟩ : ∃ V, (w.alloc (.deferred (some []))).alloc (.loop (rc .ready none)) = V := ⟨_, rfl⟩
 have hL : V.heap[d + 1]? = some (.loop (rc .ready none)) := by
  have h := World.alloc_heap_new (w.alloc (.deferred (some []))) (.loop (rc .ready none))
  rw [World.size_alloc, hd, hV] at h
  exact h
 have hD : V.heap[d]? = some (.deferred (some [])) := by
  have h := (Below.heap_alloc (w.alloc (.deferred (some []))) (.loop (rc .ready none)) w.heap.size (by simp)).trans (World.alloc_heap_new w _)
  rw [hV, hd] at h
  exact h
 have hIV : I [] V := by rw [← hV]; exact hI.alloc _ (hI.alloc _ h0)
 have hbV : Below w.heap.size w V := by rw [← hV]; exact ((Below.refl _ w).alloc (Nat.le_refl _) _).alloc (by simp) _
 refine ⟨d + 1, [{ target := .collected d, args := #[] }], V, { target := .fn (.func gf) lb, args := #[.func (.yield (d + 1)) #[] #[]] }, V, gf, #[.func (.yield (d + 1)) #[] #[]] ++ lb, V, ?_, ?_, ?_, ?_, fun _ => h1, ?_⟩
 ·rw [← hV, hrc, ← hd]
  exact run_enterLoop_outer _ _ _ _ _
 ·simp only [resolve, hg]
  simp [go_sem]
 ·intro f' hf'
  simp [Target.leads] at hf'
  subst hf'
  exact hFg
 ·simp [invoke, go_sem, eg]
 rw [hd] at hI hIx hbody hdone hstop hKb
 refine (hseq (d + 1) (fun pre W => I pre W ∧ (W.heap[d + 1]? = some (.loop (rc .ready none)) ∧ W.heap[d]? = some (.deferred (some [])))) (fun pre W => Ix pre W ∧ (W.heap[d + 1]? = some (.loop (rc .done (some .ret))) ∧ W.heap[d]? = some (.deferred (some [])))) V hbV
   (by rw [hd]; exact hI.x.and ((AbX.blk (by omega)).and (AbX.blk (Nat.le_refl _)))) (by rw [hd]; exact hIx.x.and ((AbX.blk (by omega)).and (AbX.blk (Nat.le_refl _)))) ?_ ⟨hIV, hL, hD⟩).mono ?_
 ·rintro pre x W ⟨hi, hl, hk⟩ hlen
  have hlt : d + 1 < W.heap.size := (Array.getElem?_eq_some_iff.1 hl).1
  have hy := run_yield (P := P) (args := encs x) hl (by rw [hrc]; exact hps x)
  rw [hrc] at hy
  refine ⟨fn, _, assign, body, hy, roundIn_of_wpIn hfn (hassign _ x W _ ?_)⟩
  clear hy
  refine ⟨_, run_beginRound hl (by rw [hrc]), ?_⟩
  obtain ⟨b, hb⟩ : ∃ b : Obj, .loop { rc .ready none with state := .busy } = b := ⟨_, rfl⟩
  have hbc : b.isCells = false := by rw [← hb]; rfl
  have hl2 : (W.putObj (d + 1) b).heap[d + 1]? = some b := World.putObj_heap_same hlt
  have hk2 : (W.putObj (d + 1) b).heap[d]? = some (.deferred (some [])) := (World.putObj_heap_other (by omega)).trans hk
  rw [hb]
  have hkp : Kp W (W.putObj (d + 1) b) := hKb _ _ _ _ (by omega) hl rfl
  have hend : ∀ (jump : Option Code) (W3 : World), KeepsFrom d (W.putObj (d + 1) b) W3 →
    ∃ l3 : Loop, W3.heap[d + 1]? = some (.loop l3) ∧ (Instr.endRound (d + 1) jump).run P W3 = .ok (.bool jump.isNone) (W3.putObj (d + 1) (.loop (rc (if jump.isNone then .ready else .done) jump))) ∧
    (W3.putObj (d + 1) (.loop (rc (if jump.isNone then .ready else .done) jump))).heap[d + 1]? = some (.loop (rc (if jump.isNone then .ready else .done) jump)) ∧
    (W3.putObj (d + 1) (.loop (rc (if jump.isNone then .ready else .done) jump))).heap[d]? = some (.deferred (some [])) := fun jump W3 h3 => by
   have hl3 := h3.same _ _ (by omega) hl2 hbc
   rw [← hb] at hl3
   have hr := run_endRound (P := P) jump hl3
   rw [hrc] at hr ⊢
   exact ⟨_, hl3, hr, World.putObj_heap_same (Array.getElem?_eq_some_iff.1 hl3).1, (World.putObj_heap_other (by omega)).trans (h3.same _ _ (Nat.le_refl _) hk2 rfl)⟩
  refine wpIn_mono (hbody _ pre x _ (by omega) ⟨_, by rw [hb]; exact hl2⟩ (hI.putObj _ hi (by omega) hl rfl) hlen) ?_
  rintro e a3 W3 hp
  cases e with
  | normal =>
   obtain ⟨q1, q2, q3⟩ := hp
   obtain ⟨l3, e0, e1, e2, e3⟩ := hend none W3 q1
   exact ⟨_, _, e1, .inl ⟨rfl, ⟨hI.putObj _ q3 (by omega) e0 rfl, e2, e3⟩, hKt (hKt hkp q2) (hKb _ _ _ _ (by omega) e0 rfl)⟩⟩
  | ret =>
   obtain ⟨q1, q2, q3⟩ := hp
   obtain ⟨l3, e0, e1, e2, e3⟩ := hend (some .ret) W3 q1
   exact ⟨_, _, e1, .inr ⟨rfl, ⟨hIx.putObj _ q3 (by omega) e0 rfl, e2, e3⟩, hKt (hKt hkp q2) (hKb _ _ _ _ (by omega) e0 rfl)⟩⟩
  | exit id => exact hp.elim
  | goto t => exact hp.elim
  | panic ch => exact hp.elim
  | outgrown => exact hp.elim
 ·rintro e W2 ⟨⟨v, rfl⟩, (⟨xs, hS, hi, hl, hk⟩ | ⟨pre, hSp, hi, hl, hk⟩)⟩
  ·have hr := run_endLoop (P := P) hl (by rw [hrc]; simp)
   rw [hrc] at hr
   exact ⟨none, _, hr, hdone _ xs _ (Nat.le_refl _) hS (hI.putObj _ hi (by omega) hl rfl) ((World.putObj_heap_other (by omega)).trans hk)⟩
  ·have hr := run_endLoop (P := P) hl (by rw [hrc]; simp)
   rw [hrc] at hr
   exact ⟨some .ret, _, hr, hstop _ pre _ (Nat.le_refl _) hSp (hIx.putObj _ hi (by omega) hl rfl) ((World.putObj_heap_other (by omega)).trans hk)⟩
end
end
section
abbrev W32 : Nat := 4294967296
def trn (x n : Nat) : Nat := 2 ^ (32 - n) * (x % 2 ^ n) + x / 2 ^ n
theorem trn_lt {x n : Nat} (hx : x < W32) (hn : n ≤ 32) : trn x n < W32 := by
 unfold trn
 have hp : 2 ^ (32 - n) * 2 ^ n = W32 := by rw [← Nat.pow_add, show 32 - n + n = 32 by omega]
 have h0 : 0 < 2 ^ n := Nat.two_pow_pos n
 have h1 : x % 2 ^ n < 2 ^ n := Nat.mod_lt _ h0
 have h2 : x / 2 ^ n < 2 ^ (32 - n) := by
  rw [Nat.div_lt_iff_lt_mul h0, hp]
  exact hx
 have h3 : 2 ^ (32 - n) * (x % 2 ^ n) + 2 ^ (32 - n) ≤ 2 ^ (32 - n) * 2 ^ n := by
  rw [← Nat.mul_succ]
  exact Nat.mul_le_mul_left _ h1
 omega
theorem trn_or (x n : Nat) (hx : x < W32) (hn : n ≤ 32) : (x * 2 ^ (32 - n) % W32) ||| x / 2 ^ n = trn x n := by
 unfold trn
 have hp : W32 = 2 ^ (32 - n) * 2 ^ n := by rw [← Nat.pow_add, show 32 - n + n = 32 by omega]
 have h2 : x / 2 ^ n < 2 ^ (32 - n) := by
  rw [Nat.div_lt_iff_lt_mul (Nat.two_pow_pos n), ← hp]
  exact hx
 rw [hp, Nat.mul_comm x, Nat.mul_mod_mul_left]
 exact (Nat.two_pow_add_eq_or_of_lt h2 _).symm
def sg0 (x : Nat) : Nat := (trn x 7 ^^^ trn x 18) ^^^ x / 8
def sg1 (x : Nat) : Nat := (trn x 17 ^^^ trn x 19) ^^^ x / 1024
def up0 (x : Nat) : Nat := (trn x 2 ^^^ trn x 13) ^^^ trn x 22
def up1 (x : Nat) : Nat := (trn x 6 ^^^ trn x 11) ^^^ trn x 25
theorem x32 {a b : Nat} (ha : a < W32) (hb : b < W32) : a ^^^ b < W32 := Nat.xor_lt_two_pow (n := 32) ha hb
theorem sg0_lt {x : Nat} (h : x < W32) : sg0 x < W32 := x32 (x32 (trn_lt h (by omega)) (trn_lt h (by omega))) (by unfold W32 at *; omega)
theorem sg1_lt {x : Nat} (h : x < W32) : sg1 x < W32 := x32 (x32 (trn_lt h (by omega)) (trn_lt h (by omega))) (by unfold W32 at *; omega)
theorem up0_lt {x : Nat} (h : x < W32) : up0 x < W32 := x32 (x32 (trn_lt h (by omega)) (trn_lt h (by omega))) (trn_lt h (by omega))
theorem up1_lt {x : Nat} (h : x < W32) : up1 x < W32 := x32 (x32 (trn_lt h (by omega)) (trn_lt h (by omega))) (trn_lt h (by omega))
def chs (e f g : Nat) : Nat := g ^^^ (e &&& (f ^^^ g))
def mst (a b c : Nat) : Nat := (a &&& b) ||| (c &&& (a ||| b))
theorem chs_lt {e f g : Nat} (hf : f < W32) (hg : g < W32) : chs e f g < W32 := x32 hg (Nat.and_lt_two_pow (n := 32) _ (x32 hf hg))
theorem mst_lt {a b c : Nat} (ha : a < W32) (hb : b < W32) : mst a b c < W32 := Nat.or_lt_two_pow (n := 32) (Nat.and_lt_two_pow (n := 32) _ hb) (Nat.and_lt_two_pow (n := 32) _ (Nat.or_lt_two_pow (n := 32) ha hb))
def wds (b : List UInt8) : Nat → List Nat
 | 0 => []
 | n + 1 => wds b n ++ [num ((b.drop (4 * n)).take 4)]
def wNext (l : List Nat) : Nat := (l.getD (l.length - 16) 0 + l.getD (l.length - 7) 0 + sg0 (l.getD (l.length - 15) 0) + sg1 (l.getD (l.length - 2) 0)) % W32
def schedL : Nat → List Nat → List Nat
 | 0, l => l
 | n + 1, l => schedL n l ++ [wNext (schedL n l)]
def sched (b : List UInt8) : List Nat := schedL 48 (wds b 16)
theorem wds_length (b : List UInt8) (n : Nat) : (wds b n).length = n := by
 induction n with
 | zero => rfl
 | succ n ih => simp [wds, ih]
theorem schedL_length (n : Nat) (l : List Nat) : (schedL n l).length = l.length + n := by
 induction n with
 | zero => rfl
 | succ n ih => simp [schedL, ih]; omega
theorem sched_length (b : List UInt8) : (sched b).length = 64 := by
 unfold sched
 rw [schedL_length, wds_length]
structure St where
 a : Nat
 b : Nat
 c : Nat
 d : Nat
 e : Nat
 f : Nat
 g : Nat
 h : Nat
deriving DecidableEq
def St.Ok (s : St) : Prop := s.a < W32 ∧ s.b < W32 ∧ s.c < W32 ∧ s.d < W32 ∧ s.e < W32 ∧ s.f < W32 ∧ s.g < W32 ∧ s.h < W32
def rT (s : St) (k w : Nat) : Nat := (s.h + up1 s.e + chs s.e s.f s.g + k + w) % W32
def rU (s : St) : Nat := (up0 s.a + mst s.a s.b s.c) % W32
def rnd (s : St) (k w : Nat) : St := ⟨(rT s k w + rU s) % W32, s.a, s.b, s.c, (s.d + rT s k w) % W32, s.e, s.f, s.g⟩
theorem rnd_ok {s : St} (h : s.Ok) (k w : Nat) : (rnd s k w).Ok := by
 obtain ⟨h1, h2, h3, h4, h5, h6, h7, h8⟩ := h
 exact ⟨Nat.mod_lt _ (by decide), h1, h2, h3, Nat.mod_lt _ (by decide), h5, h6, h7⟩
def rnds (K w : List Nat) : Nat → St → St
 | 0, s => s
 | n + 1, s => rnd (rnds K w n s) (K.getD n 0) (w.getD n 0)
theorem rnds_ok (K w : List Nat) {s : St} (h : s.Ok) (n : Nat) : (rnds K w n s).Ok := by
 induction n with
 | zero => exact h
 | succ n ih => exact rnd_ok ih _ _
def St.add (s t : St) : St := ⟨(s.a + t.a) % W32, (s.b + t.b) % W32, (s.c + t.c) % W32, (s.d + t.d) % W32, (s.e + t.e) % W32, (s.f + t.f) % W32, (s.g + t.g) % W32, (s.h + t.h) % W32⟩
theorem St.add_ok (s t : St) : (s.add t).Ok := ⟨Nat.mod_lt _ (by decide), Nat.mod_lt _ (by decide), Nat.mod_lt _ (by decide), Nat.mod_lt _ (by decide), Nat.mod_lt _ (by decide), Nat.mod_lt _ (by decide), Nat.mod_lt _ (by decide), Nat.mod_lt _ (by decide)⟩
def shaK : List Nat := [
  0x428a2f98, 0x71374491, 0xb5c0fbcf, 0xe9b5dba5, 0x3956c25b, 0x59f111f1, 0x923f82a4, 0xab1c5ed5, 0xd807aa98, 0x12835b01, 0x243185be, 0x550c7dc3, 0x72be5d74, 0x80deb1fe, 0x9bdc06a7, 0xc19bf174,
  0xe49b69c1, 0xefbe4786, 0x0fc19dc6, 0x240ca1cc, 0x2de92c6f, 0x4a7484aa, 0x5cb0a9dc, 0x76f988da, 0x983e5152, 0xa831c66d, 0xb00327c8, 0xbf597fc7, 0xc6e00bf3, 0xd5a79147, 0x06ca6351, 0x14292967,
  0x27b70a85, 0x2e1b2138, 0x4d2c6dfc, 0x53380d13, 0x650a7354, 0x766a0abb, 0x81c2c92e, 0x92722c85, 0xa2bfe8a1, 0xa81a664b, 0xc24b8b70, 0xc76c51a3, 0xd192e819, 0xd6990624, 0xf40e3585, 0x106aa070,
  0x19a4c116, 0x1e376c08, 0x2748774c, 0x34b0bcb5, 0x391c0cb3, 0x4ed8aa4a, 0x5b9cca4f, 0x682e6ff3, 0x748f82ee, 0x78a5636f, 0x84c87814, 0x8cc70208, 0x90befffa, 0xa4506ceb, 0xbef9a3f7, 0xc67178f2]
def shaH : St := ⟨0x6a09e667, 0xbb67ae85, 0x3c6ef372, 0xa54ff53a, 0x510e527f, 0x9b05688c, 0x1f83d9ab, 0x5be0cd19⟩
theorem shaH_ok : shaH.Ok := ⟨by decide, by decide, by decide, by decide, by decide, by decide, by decide, by decide⟩
theorem shaK_lt : ∀ k, shaK.getD k 0 < W32 := by
 intro k
 by_cases h : k < 64
 ·have : ∀ j : Fin 64, shaK.getD j 0 < W32 := by decide
  exact this ⟨k, h⟩
 ·have h1 : shaK[k]? = none := List.getElem?_eq_none (show shaK.length ≤ k from (show shaK.length = 64 from rfl) ▸ (by omega))
  rw [List.getD_eq_getElem?_getD, h1]
  decide
def eatL (s : St) (b : List UInt8) : St := (rnds shaK (sched b) 64 s).add s
theorem eatL_ok (s : St) (b : List UInt8) : (eatL s b).Ok := St.add_ok _ _
def shaTail (n : Nat) : List UInt8 := 128 :: (List.replicate ((119 - n % 64) % 64) 0 ++ be (8 * n) 8)
def shaAll (l : List UInt8) : List UInt8 := l ++ shaTail l.length
theorem shaTail_length (n : Nat) : (shaTail n).length = (119 - n % 64) % 64 + 9 := by simp [shaTail, be_length]
theorem shaAll_length (l : List UInt8) : (shaAll l).length % 64 = 0 ∧ (shaAll l).length = l.length + (119 - l.length % 64) % 64 + 9 := by
 have : (shaAll l).length = l.length + (119 - l.length % 64) % 64 + 9 := by
  unfold shaAll
  rw [List.length_append, shaTail_length]
  omega
 exact ⟨by omega, this⟩
def eats (b : List UInt8) : Nat → St
 | 0 => shaH
 | n + 1 => eatL (eats b n) ((b.drop (64 * n)).take 64)
theorem eats_ok (b : List UInt8) (n : Nat) : (eats b n).Ok := by
 cases n with
 | zero => exact shaH_ok
 | succ n => exact eatL_ok _ _
def St.print (s : St) : List UInt8 := be s.a 4 ++ be s.b 4 ++ be s.c 4 ++ be s.d 4 ++ be s.e 4 ++ be s.f 4 ++ be s.g 4 ++ be s.h 4
theorem St.print_length (s : St) : s.print.length = 32 := by simp [St.print, be_length]
def shaL (l : List UInt8) : List UInt8 := (eats (shaAll l) ((shaAll l).length / 64)).print
theorem shaL_length (l : List UInt8) : (shaL l).length = 32 := St.print_length _
def prmB (l : List Nat) (x : Nat) : Bool := l.all fun p => x % p != 0
def prmGo (n : Nat) : Nat → Nat → List Nat → List Nat
 | 0, _, l => l
 | k + 1, x, l => if l.length < n then prmGo n k (x + 1) (if prmB l x then l ++ [x] else l) else l
def sqB (x p : Nat) : Bool := decide (x * x ≤ p * 18446744073709551616)
def cbB (x p : Nat) : Bool := decide (x * x * x ≤ p * 79228162514264337593543950336)
def frGo (h : Nat → Nat → Bool) (p : Nat) : Nat → Nat → Nat → Nat
 | 0, fr, _ => fr
 | k + 1, fr, to => if to - fr > 1 then (if h ((fr + to) / 2) p then frGo h p k ((fr + to) / 2) to else frGo h p k fr ((fr + to) / 2)) else fr
def frac (h : Nat → Nat → Bool) (p : Nat) : Nat := frGo h p 37 0 137438953472 % W32
theorem primes64 : (prmGo 64 400 2 []).length = 64 ∧ prmGo 64 310 2 [] = prmGo 64 400 2 [] := by decide +kernel
theorem shaK_is : (prmGo 64 400 2 []).map (frac cbB) = shaK := by decide +kernel
theorem shaH_is : [2, 3, 5, 7, 11, 13, 17, 19].map (frac sqB) = [shaH.a, shaH.b, shaH.c, shaH.d, shaH.e, shaH.f, shaH.g, shaH.h] := by decide +kernel
end
section
def cutN (n m : Nat) : Nat := (m + n - 1) / n
def cutL (b : List UInt8) (n : Nat) : List (List UInt8) := (List.range (cutN n b.length)).map fun k => (b.drop (n * k)).take n
theorem cutN_mul {n m : Nat} (hn : 0 < n) (h : m % n = 0) : cutN n m = m / n := by
 unfold cutN
 have e : m = n * (m / n) := by have := Nat.div_add_mod m n; omega
 generalize m / n = q at *
 subst e
 rw [show n * q + n - 1 = (n - 1) + n * q by omega, Nat.add_mul_div_left _ _ hn, Nat.div_eq_of_lt (by omega), Nat.zero_add]
theorem cut_more {n m k : Nat} (hn : 0 < n) : k < cutN n m ↔ n * k < m := by
 unfold cutN
 rw [Nat.lt_iff_add_one_le, Nat.le_div_iff_mul_le hn, Nat.succ_mul, Nat.mul_comm k n]
 omega
theorem cutL_length (b : List UInt8) (n : Nat) : (cutL b n).length = cutN n b.length := by simp [cutL]
end
section
open Go.RowKit Go.Shelf
attribute [local go_sem] Oper.semAt_some
structure K2 (b1 b2 : Nat) (a b : World) : Prop where
 size : a.heap.size ≤ b.heap.size
 one : ∀ cs t fr, a.heap[b1]? = some (.cells cs t fr) → b.heap[b1]? = some (.cells cs t fr)
 two : ∀ cs t fr, a.heap[b2]? = some (.cells cs t fr) → b.heap[b2]? = some (.cells cs t fr)
namespace K2
variable {b1 b2 : Nat}
theorem refl (a : World) : K2 b1 b2 a a := ⟨Nat.le_refl _, fun _ _ _ h => h, fun _ _ _ h => h⟩
theorem trans {a b c : World} (h : K2 b1 b2 a b) (k : K2 b1 b2 b c) : K2 b1 b2 a c := ⟨Nat.le_trans h.size k.size, fun _ _ _ h1 => k.one _ _ _ (h.one _ _ _ h1), fun _ _ _ h1 => k.two _ _ _ (h.two _ _ _ h1)⟩
theorem of_chg {S : Nat → Prop} {a b : World} (h : Chg S a b) (h1 : ¬ S b1) (h2 : ¬ S b2) : K2 b1 b2 a b := ⟨h.size, fun _ _ _ e => blk_keep e h h1, fun _ _ _ e => blk_keep e h h2⟩
theorem put (W : World) (l : Nat) (o o' : Obj) (h : W.heap[l]? = some o) (hc : o.isCells = false) : K2 b1 b2 W (W.putObj l o') := by
 have hg := grownBy_putObj' W l o'
 have key : ∀ b cs t fr, W.heap[b]? = some (Obj.cells cs t fr) → (W.putObj l o').heap[b]? = some (Obj.cells cs t fr) := fun b cs t fr e => (hg.block b (blk_lt e) (fun e2 => by
   injection e2 with e2
   subst e2
   rw [h] at e
   injection e with e
   subst e
   cases hc)).trans e
 exact ⟨hg.size, key b1, key b2⟩
end K2
def pcV (A : Option Addr) (n m k : Nat) : Value := .slice (A.map fun a => ⟨a.block, a.off + n * k, none⟩) (min n (m - n * k)) (min n (m - n * k))
def pcE (A : Option Addr) (n m k : Nat) : Array Value := #[pcV A n m k]
def PcR (n m c b1 b2 : Nat) (A : Option Addr) (J Jx : List Nat → World → Prop) (mv : Value) (wr : World) : Prop :=
 (∃ (k : Nat) (Ak : Option Addr) (Ck : Nat), k ≤ cutN n m ∧ mv = .bool true ∧ (m - n * k ≤ Ck ∧ Ck ≤ c) ∧ (n * k < m → Ak = A.map fun a => ⟨a.block, a.off + n * k, none⟩) ∧ J (List.range k) wr ∧
    wr.heap[b1]? = some (.cells #[.slice Ak (m - n * k) Ck] 32 (0, 0)) ∧ wr.heap[b2]? = some (.cells #[.int .i64 (n : Int)] 3 (0, 0))) ∨
 (mv = .bool false ∧ ∃ pre : List Nat, (∃ k, k < cutN n m ∧ pre = List.range (k + 1)) ∧ Jx pre wr)
theorem pcs1 (nn : Nat) (hnn : 1 ≤ nn) (n m c blk o b1 b2 : Nat) (hn : 1 ≤ n) (hn2 : n ≤ 1000000) (hb12 : b1 ≠ b2) (l : Nat) (J Jx : List Nat → World → Prop) (B : Nat) (hB : b1 < B) (W : World) (hJ : AbX (fun r => r = b1) B J) (hJx : AbX (fun r => r = b1) B Jx)
  (A : Option Addr) (hA : 0 < m → A = some ⟨blk, o, none⟩) (hc : m ≤ c) (hcm : c ≤ maxLen)
  (hY : ∀ pre x W1, J pre W1 → pre.length < cutN n m + 1 → YieldAt Fence.wide (nn - 1) Tryz.prog l (pcE A n m x) W1 fun e W' =>
    (e = .returned (.bool true) ∧ J (pre ++ [x]) W' ∧ K2 b1 b2 W1 W') ∨ (e = .returned (.bool false) ∧ Jx (pre ++ [x]) W' ∧ K2 b1 b2 W1 W'))
  (h1 : W.heap[b1]? = some (.cells #[.slice A m c] 32 (0, 0))) (h2 : W.heap[b2]? = some (.cells #[.int .i64 (n : Int)] 3 (0, 0))) (h0 : J [] W) :
  CallsIn Fence.wide nn Tryz.prog 245 #[.func (.yield l) #[] #[], .pointer (some ⟨b1, 0, none⟩), .pointer (some ⟨b2, 0, none⟩)] W fun e W' => (∃ v, e = .returned v) ∧
   ((∃ xs, xs = List.range (cutN n m) ∧ J xs W') ∨ (∃ pre : List Nat, (∃ k, k < cutN n m ∧ pre = List.range (k + 1)) ∧ Jx pre W')) := by
 unfold maxLen at hcm
 have HJ := Lh hJ
 have HJx := Lh hJx
 have HY := Lh hY
 have HB2 := Lh h2
 clear hJ hJx hY h2
 have hro : Fence.wide.round = none := rfl
 refine callsIn_of_wp Tryz.func245 rfl trivial ?_ hro
 simp only [Tryz.ntmps245, List.size_toArray, List.length_cons, List.length_nil, Nat.reduceAdd, Nat.reduceSub, Array.replicate_succ, Array.replicate_zero, List.push_toArray, List.append_toArray, List.nil_append, List.cons_append]
 gi_wp2
 gi_loopw [4] (fun mv wr => PcR n m c b1 b2 A J Jx mv wr) (fun mv wr => match mv, wr.cell? ⟨b1, 0, none⟩ with | .bool true, some (.slice _ len _) => len + 1 | _, _ => 0)
 case atStart => exact .inl ⟨0, A, c, Nat.zero_le _, rfl, ⟨by omega, Nat.le_refl _⟩, fun h => (by rw [hA h]; rfl), h0, h1, HB2.out⟩
 case round =>
  rcases hrel with ⟨k, Ak, C, hk, rfl, hC, hAk, HJk, HB, HB2⟩ | ⟨rfl, pre, hpre, hjx⟩
  ·have HJk := Lh HJk
   have HB := Lh HB
   have HB2 := Lh HB2
   have k1 := blk_cell HB.out 0 (v := .slice Ak (m - n * k) C) rfl
   have k2 := blk_cell HB2.out 0 (v := .int .i64 (n : Int)) rfl
   have f1 := blk_free HB.out 0
   have hlb := blk_lt HB.out
   by_cases hlt : n * k < m
   ·obtain rfl := hAk hlt
    obtain rfl := hA (by omega)
    have hkc : k < cutN n m := (cut_more (by omega)).2 hlt
    obtain ⟨L, hL⟩ : ∃ L, m - n * k = L := ⟨_, rfl⟩
    obtain ⟨q, hq⟩ : ∃ q, min n L = q := ⟨_, rfl⟩
    have hq2 : min (n : Int) (L : Int) = (q : Int) := by omega
    have hb : 1 ≤ q ∧ q ≤ L ∧ L ≤ C ∧ C ≤ 9223372036854775807 := by omega
    simp only [Option.map_some, hL] at k1 HB
    have hL0 : 0 < L := by omega
    obtain ⟨fn, tmps, assign, body, hy, hR⟩ := HY.out _ k _ HJk.out (by rw [List.length_range]; omega)
    have hpe : pcE (some ⟨blk, o, none⟩) n m k = #[.slice (some ⟨blk, o + n * k, none⟩) q q] := by unfold pcE pcV; rw [hL, hq]; rfl
    rw [hpe] at hy
    have HRR := Lh hR
    obtain ⟨at_, hat⟩ : ∃ x, o + n * k = x := ⟨_, rfl⟩
    rw [hat] at k1 HB hy
    clear hR hpe
    gi_wp2_with fail
    have hcore : ∀ (W3 : World) (H : List Nat → World → Prop) (s : List Nat) (v : Value), AbX (fun r => r = b1) B H → H s W3 → H s (W3.setCell ⟨b1, 0, none⟩ v) := fun W3 H s v hH hs => hH s _ _ (some b1) hs (grownBy_setCell' W3 b1 v) (fun r e => by cases e; exact ⟨rfl, hB⟩)
    have HC := Lh hcore
    have HR1 : Hid (List.range (k + 1) = List.range k ++ [k]) := Lh List.range_succ
    have HMu : Hid (n * (k + 1) = n * k + n) := Lh (Nat.mul_succ n k)
    have K1 := Lh k1
    clear hcore
    refine HRR.out.mono ?_
    rintro e W3 (⟨rfl, hJ3, hk3⟩ | ⟨rfl, hJ3, hk3⟩)
    ·have HB3 := Lh (hk3.one _ _ _ HB.out)
     have HB4 := Lh (hk3.two _ _ _ HB2.out)
     have HJ3 := Lh hJ3
     have k5 := blk_cell HB3.out 0 (v := .slice (some ⟨blk, at_, none⟩) L C) rfl
     have f5 := blk_free HB3.out 0
     have l5 := blk_lt HB3.out
     clear hk3 hJ3 k1 k2 f1
     by_cases hcap : C = q
     ·have hLq : L = q := by omega
      subst hLq
      obtain rfl := hcap
      gi_wp2
      refine ⟨.inl ⟨k + 1, (some ⟨blk, at_, none⟩), 0, by omega, rfl, ⟨by have := HMu.out; omega, by omega⟩, fun h => ?_, HC.out W3 J _ _ HJ.out (by rw [HR1.out]; exact HJ3.out), ?_, blk_keep HB4.out (chg_set W3 b1 0 _) (fun e => hb12 e.symm)⟩, ?_⟩
      ·have hm := HMu.out
       first
        | omega
        | (have : o + n * (k + 1) = at_ + q := by omega
           rw [Option.map_some, this])
      ·have h := blk_set 0 (.slice (some ⟨blk, at_, none⟩) 0 0) HB3.out
       have hm := HMu.out
       rw [show m - n * (k + 1) = 0 by omega]
       exact h
      ·have h := blk_cell (blk_set 0 (.slice (some ⟨blk, at_, none⟩) 0 0) HB3.out) 0 rfl
       have h' : (W3.setCell ⟨b1, 0, none⟩ (.slice (some ⟨blk, at_, none⟩) 0 0)).cell? ⟨b1, 0, none⟩ = some (.slice (some ⟨blk, at_, none⟩) 0 0) := h
       rw [h', K1.out]
       show 0 + 1 < _ + 1
       omega
     ·have hcap' : ¬ (q = C) := fun e => hcap e.symm
      gi_wp2
      refine ⟨.inl ⟨k + 1, (some ⟨blk, at_ + q, none⟩), (C - q), by omega, rfl, ⟨by have := HMu.out; omega, by omega⟩, fun h => ?_, HC.out W3 J _ _ HJ.out (by rw [HR1.out]; exact HJ3.out), ?_, blk_keep HB4.out (chg_set W3 b1 0 _) (fun e => hb12 e.symm)⟩, ?_⟩
      ·have hm := HMu.out
       first
        | omega
        | (have : o + n * (k + 1) = at_ + q := by omega
           rw [Option.map_some, this])
      ·have h := blk_set 0 (.slice (some ⟨blk, at_ + q, none⟩) (L - q) (C - q)) HB3.out
       have hm := HMu.out
       rw [show m - n * (k + 1) = (L - q) by omega]
       exact h
      ·have h := blk_cell (blk_set 0 (.slice (some ⟨blk, at_ + q, none⟩) (L - q) (C - q)) HB3.out) 0 rfl
       have h' : (W3.setCell ⟨b1, 0, none⟩ (.slice (some ⟨blk, at_ + q, none⟩) (L - q) (C - q))).cell? ⟨b1, 0, none⟩ = some (.slice (some ⟨blk, at_ + q, none⟩) (L - q) (C - q)) := h
       rw [h', K1.out]
       show (L - q) + 1 < _ + 1
       omega
    ·have HB3 := Lh (hk3.one _ _ _ HB.out)
     have HB4 := Lh (hk3.two _ _ _ HB2.out)
     have HJ3 := Lh hJ3
     have k5 := blk_cell HB3.out 0 (v := .slice (some ⟨blk, at_, none⟩) L C) rfl
     have f5 := blk_free HB3.out 0
     have l5 := blk_lt HB3.out
     clear hk3 hJ3 k1 k2 f1
     by_cases hcap : C = q
     ·have hLq : L = q := by omega
      subst hLq
      obtain rfl := hcap
      gi_wp2
      refine ⟨.inr ⟨rfl, _, ⟨k, hkc, rfl⟩, HC.out W3 Jx _ _ HJx.out (by rw [HR1.out]; exact HJ3.out)⟩, ?_⟩
      rw [K1.out]
      show 0 < _ + 1
      omega
     ·have hcap' : ¬ (q = C) := fun e => hcap e.symm
      gi_wp2
      refine ⟨.inr ⟨rfl, _, ⟨k, hkc, rfl⟩, HC.out W3 Jx _ _ HJx.out (by rw [HR1.out]; exact HJ3.out)⟩, ?_⟩
      rw [K1.out]
      show 0 < _ + 1
      omega
   ·have hm0 : m - n * k = 0 := by omega
    rw [hm0] at k1
    gi_wp2
    go_end0
    have hkk : k = cutN n m := by
     have h : ¬ k < cutN n m := fun h => hlt ((cut_more (n := n) (m := m) (by omega)).1 h)
     omega
    subst hkk
    exact ⟨⟨_, rfl⟩, .inl ⟨_, rfl, HJk.out⟩⟩
  ·have HX := Lh hjx
   have HPr := Lh hpre
   clear hjx hpre
   gi_wp2
   go_end0
   exact ⟨⟨_, rfl⟩, .inr ⟨_, HPr.out, HX.out⟩⟩
end
section
open Go.RowKit
theorem oper_inR {P : Program} {o : Oper} {a : Act} {w : World} {K : Act → World → Prop} {Q : Exit → Act → World → Prop} (l n : Nat) (hnd : ∀ c, o.op ≠ .defer c) (h : o.wp P a w K Q) : o.wpIn (Fence.wide.inRound l) n P a w K Q := by
 refine ⟨fun _ _ => trivial, ?_⟩
 rw [Fence.inRound_round, Oper.semAt_some l _ _ hnd]
 unfold Oper.wp at h
 generalize (execOp a.eval o).run P w = r at *
 cases r with
 | ok x w' =>
  cases x <;> simp only [Oper.upon, Oper.uponIn] at h ⊢
  case value => exact h
  case skip => exact h
  case defer => exact h
  case enter f args => exact ⟨fun e => by simp [Fence.wide] at e, CallsIn.inRound l (callsIn_wide.2 h)⟩
  case row row args =>
   refine ⟨fun e => by simp [Fence.wide] at e, fun c cs _ => ?_⟩
   obtain ⟨v, w2, r, s⟩ := h c cs
   exact ⟨v, w2, r, stepsIn_wide.2 s⟩
 | halt x w' => cases x <;> simp only [Oper.upon, Oper.uponIn] at h ⊢ <;> exact h
section
variable {P : Program} {md : Region.Mode} {ops : Array Oper} {Q : Exit → Act → World → Prop}
theorem wpAny_inR (l n : Nat) (hnd : ∀ (i : Nat) (o : Oper), ops[i]? = some o → ∀ c, o.op ≠ .defer c) (hnl : ¬ LetsOut Q) : ∀ (fuel : Nat) (listed : Array Bool) (a : Act) (w : World), wpAny P md ops Q fuel listed a w → wpAnyIn (Fence.wide.inRound l) n P md ops Q fuel listed a w
 | 0, _, _, _, h => h
 | fuel + 1, listed, a, w, h => ⟨h.1, fun i hi => by
     have hs := h.2 i hi
     unfold wpOp at hs
     unfold wpOpIn
     cases ho : ops[i]? with
     | none =>
       rw [ho] at hs
       exact wpAny_inR l n hnd hnl fuel _ _ _ hs
     | some o =>
       rw [ho] at hs
       simp only at hs ⊢
       split
       · rename_i hw
         rw [if_pos hw] at hs
         rcases hs with hs | hs
         · exact oper_inR l n (hnd i o ho) (Oper.wp_mono (fun a w h => wpAny_inR l n hnd hnl fuel _ a w h) hs)
         · exact absurd hs.2 hnl
       · rename_i hw
         rw [if_neg hw] at hs
         exact ⟨fun _ _ => trivial, wpAny_inR l n hnd hnl fuel _ _ _ hs⟩⟩
def noDefer (ops : Array Oper) : Bool := ops.toList.all fun o => match o.op with | .defer _ => false | _ => true
theorem noDefer_of (h : noDefer ops = true) : ∀ (i : Nat) (o : Oper), ops[i]? = some o → ∀ c, o.op ≠ .defer c := fun i o ho c e => by
 have hm : o ∈ ops.toList := by
  rw [← Array.getElem?_toList] at ho
  exact List.mem_of_getElem? ho
 have := List.all_eq_true.1 h o hm
 rw [e] at this
 cases this
theorem region_inR {id l n : Nat} {S : World → Prop} {a : Act} {w : World} (hm : P.follows .mixedOrders = true) (hd : noDefer ops = true) (hnl : ¬ LetsOut Q) (hS : S w.drew)
  (h : S w.drew → wpAnyH P .any ops Q S ops.size (Array.replicate ops.size false) a w.drew) : (Code.region id ops true).wpIn (Fence.wide.inRound l) n P Q a w :=
 wpIn_region_any hm (wpAny_inR l n (noDefer_of hd) hnl _ _ _ _ (wpAny_of_held _ _ _ _ (h hS)))
end
end
end Go.Proofs.YtajkajgifigmbaaGreat
