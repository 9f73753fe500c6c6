/- BootNil, part 10 of 14: contracts of the functions that it reaches, and the laws that they need, merged and shortened (from my texts XCutW, XSlPc, XRgG, XBnW). -/
import Derived.Test.YtajkajgifigmbaaGreatMgBootNilB
import Derived.Test.YtajkajgifigmbaaGreatMgBootNilC
import Derived.Test.YtajkajgifigmbaaGreatMgBootNilF
import Derived.Test.YtajkajgifigmbaaGreatMgBootNilG
import Derived.Test.YtajkajgifigmbaaGreatMgBootNilH
import Derived.Test.YtajkajgifigmbaaGreatMgBootNilI
namespace Go.Proofs.YtajkajgifigmbaaGreat
set_option linter.unusedVariables false
set_option linter.unusedSimpArgs false
set_option maxHeartbeats 8000000
set_option maxRecDepth 100000
section
open Go.RowKit Go.Shelf
attribute [local go_sem] Oper.semAt_some
theorem keepsFrom_of {S : Nat → Prop} {a b : World} (B : Nat) (h : Chg S a b) (hS : ∀ k o, S k → a.heap[k]? = some o → o.isCells = true) : KeepsFrom B a b :=
 ⟨h.size, fun k o _ hk ho => blk_keep hk h (fun e => by rw [hS k o e hk] at ho; cases ho)⟩
theorem keepsFrom_lt {S : Nat → Prop} {a b : World} {B : Nat} (h : Chg S a b) (hS : ∀ k, S k → k < B) : KeepsFrom B a b :=
 ⟨h.size, fun k o hB hk _ => blk_keep hk h (fun e => by have := hS k e; omega)⟩
def RowY (b1 B : Nat) (W : World) (row : Option Nat) : Prop := ∀ r, row = some r → (r = b1 ∧ r < B) ∨ (B ≤ r ∧ ∃ o : Obj, W.heap[r]? = some o ∧ o.isCells = false)
theorem RowY.not {b1 B : Nat} {W : World} {row : Option Nat} (h : RowY b1 B W row) {k : Nat} {cs : Array Value} {t : TypeId} {fr : Nat × Nat} (hk : W.heap[k]? = some (.cells cs t fr)) (hb : k ≠ b1) : ¬ row = some k := fun e => by
 rcases h k e with h1 | ⟨_, o, ho, hc⟩
 ·exact hb h1.1
 ·rw [hk] at ho
  injection ho with ho
  subst ho
  cases hc
theorem RowY.notC {b1 B : Nat} {W : World} {row : Option Nat} (h : RowY b1 B W row) {k i : Nat} {v : Value} (hk : W.cell? ⟨k, i, none⟩ = some v) (hb : k ≠ b1) : ¬ row = some k := fun e => by
 rcases h k e with h1 | ⟨_, o, ho, hc⟩
 ·exact hb h1.1
 ·unfold World.cell? at hk
  simp only [ho] at hk
  cases o with
  | cells => cases hc
  | _ => simp at hk
theorem gb_chg {W W' : World} {row : Option Nat} (hg : W.grownBy W' row) : Chg (fun k => row = some k) W W' := (Chg.refl (fun k => row = some k) W).grown hg (fun g e => .inl e)
theorem RowY.rd {b1 B : Nat} {W W' : World} {row : Option Nat} (h : RowY b1 B W row) (hg : W.grownBy W' row) {A : Option Addr} {l : List UInt8} (hr : Rd W A l) (hn : ∀ b o, A = some ⟨b, o, none⟩ → l ≠ [] → b ≠ b1) : Rd W' A l :=
 hr.keep (gb_chg hg) (fun b o e hl => by
   obtain ⟨x, r, rfl⟩ := List.exists_cons_of_ne_nil hl
   obtain ⟨b', o', e', hc⟩ := hr 0 x rfl
   rw [e] at e'
   injection e' with e'
   injection e' with e1 e2
   subst e1
   exact h.notC hc (hn b o e (by simp)))
theorem RowY.chg {b1 B : Nat} {S : Nat → Prop} {w W W' : World} {row : Option Nat} (h : RowY b1 B W row) (hg : W.grownBy W' row) (hc : Chg S w W) (hb : w.heap.size ≤ b1) (hB : w.heap.size ≤ B) : Chg S w W' :=
 hc.grown hg (fun g e => by
   rcases h g e with h1 | h1
   · right; omega
   · right; omega)
theorem wp_snocL {P : Program} {α : Type} (R : World → α → List Value → Prop) {o : Oper} {a : Act} {w : World} {K : Act → World → Prop} {Q : Exit → Act → World → Prop} (s x : Operand) (t : TypeId)
  (ho : o.op = .call { callee := .builtin .append, args := #[s, x], argTypes := #[t, t] }) (B : Nat) (e : TypeId) (z : Value) (sz bytes : Nat) (ht : P.underlying t = some (.slice e)) (hi : (P.info? e).map (fun i => (i.zero, i.size, i.bytes)) = some (some z, sz, bytes))
  (hzs : z.cells.size = sz) (hsz : 0 < sz) (v : Value) (l : List α) (hs : a.eval s = v) (hown : OwnL R B e sz w v l) (b : Nat) (k : α) (cs : Array Value) (tb : TypeId) (hx : a.eval x = .slice (some ⟨b, 0, none⟩) 1 1) (hb : w.heap[b]? = some (.cells cs tb (0, 0))) (hcs : cs.size = sz) (h1 : cs.all (·.oneCell') = true)
  (hl : l.length ≤ 1000000) (hby : bytes ≤ 100000) (hB : B ≤ w.heap.size) (hR : ∀ w' a vs, Chg (fun k => v.ownBlock = some k) w w' → R w a vs → R w' a vs) (ha : R w k cs.toList)
  (h : ∀ v2 w2, OwnL R B e sz w2 v2 (l ++ [k]) → Chg (fun k => v.ownBlock = some k) w w2 → (∀ g, v2.ownBlock = some g → v.ownBlock = some g ∨ g = w.heap.size) → K (a.put o.dst v2) w2) : Oper.wp P o a w K Q := by
 obtain ⟨i0, hi0, hz0, hs0, hb0⟩ := info_parts hi
 have hown' := hown
 obtain ⟨xss, hro, h3, h4, h5⟩ := hown
 refine wp_append_lies w s x t ho B e i0 z sz bytes ht hi0 hz0 hs0 hb0 hzs hsz v l.length xss.flatten hs hro ⟨b, 0, none⟩ 1 1 cs.toList hx (by simp [hcs]) ?_ ?_ (by omega) (by unfold maxLen; omega) (Nat.le_trans (Nat.mul_le_mul (show l.length + 1 ≤ 1000001 by omega) hby) (by omega)) hB _ rfl ?_
 ·intro j u hu
  rw [addr_none, Nat.zero_add, cell_of_row _ _ _ _ _ _ hb]
  simpa using hu
 ·intro u hu
  have := Array.all_eq_true.1 h1
  obtain ⟨i, hi⟩ := List.getElem?_of_mem hu
  rw [Array.getElem?_toList] at hi
  obtain ⟨hlt, e⟩ := Array.getElem?_eq_some_iff.1 hi
  have := this i hlt
  rw [e] at this
  exact this
 ·intro g cap w2 h2 hgrow hat hlt
  have hg : Chg (fun k => v.ownBlock = some k) w w2 := (Chg.refl (fun k => v.ownBlock = some k) w).grown hgrow fun g' hg' => .inl hg'
  refine h _ _ ?_ hg (fun g' e => by
    have : g = g' := by simpa [Value.ownBlock] using e
    subst this
    exact hat)
  refine ⟨xss ++ [cs.toList], ?_, by simp [h3], ?_, ?_⟩
  ·rw [List.length_append, List.flatten_append]
   simpa using h2
  ·intro x hx
   rcases List.mem_append.1 hx with hx | hx
   ·exact h4 x hx
   ·obtain rfl := List.mem_singleton.1 hx
    rw [Array.length_toList, hcs]
  ·intro i c x hc hx
   by_cases hil : i < l.length
   ·rw [List.getElem?_append_left hil] at hc
    rw [List.getElem?_append_left (by omega)] at hx
    exact hR _ _ _ hg (h5 i c x hc hx)
   ·have hil2 : i < (l ++ [k]).length := (List.getElem?_eq_some_iff.1 hc).1
    obtain rfl : i = l.length := by simp at hil2; omega
    rw [List.getElem?_append_right (Nat.le_refl _), Nat.sub_self] at hc
    rw [List.getElem?_append_right (by omega), h3, Nat.sub_self] at hx
    simp only [List.getElem?_cons_zero, Option.some.injEq] at hc hx
    subst hc hx
    exact hR _ _ _ hg ha
theorem info_by1 : (Tryz.prog.info? 32).map (fun i => (i.zero, i.size, i.bytes)) = some (some (.slice none 0 0), 1, 24) := by kernel_rfl
def pcL (b : List UInt8) (n k : Nat) : List UInt8 := (b.drop (n * k)).take n
theorem pcL_len (b : List UInt8) (n k : Nat) : (pcL b n k).length = min n (b.length - n * k) := by simp [pcL]
theorem cut_is (b : List UInt8) (n : Nat) : cutL b n = (List.range (cutN n b.length)).map (pcL b n) := rfl
theorem pc_rd {W : World} {A : Option Addr} {b : List UInt8} (h : Rd W A b) (n k : Nat) : Rd W (A.map fun a => ⟨a.block, a.off + n * k, none⟩) (pcL b n k) := by
 unfold pcL
 by_cases h0 : 0 < b.length
 ·obtain ⟨blk, o, rfl, _⟩ := h.at_ h0
  exact (h.drop (n * k)).take n
 ·have : b = [] := List.eq_nil_of_length_eq_zero (by omega)
  subst this
  simp only [List.drop_nil, List.take_nil]
  exact Rd.nil _ _
structure CutI (w : World) (n : Nat) (A : Option Addr) (b : List UInt8) (s : Nat) (pre : List Nat) (lv : Value) (W : World) : Prop where
 box : W.heap[s]? = some (.cells #[lv] 166 (0, 0))
 own : OwnL (msgV (Exc (s + 3) lv)) (s + 3) 32 1 W lv (pre.map (pcL b n))
 g : Chg Non w W
 rd : Rd W A b
theorem CutI.non {w W W' : World} {n s : Nat} {A : Option Addr} {b : List UInt8} {pre : List Nat} {lv : Value} (h : CutI w n A b s pre lv W) (hg : Chg Non W W') : CutI w n A b s pre lv W' :=
 ⟨blk_keep h.box hg (fun e => e), h.own.non hg (fun _ _ h => h.keep hg (fun _ _ e => e)), h.g.then_non hg, h.rd.non hg⟩
theorem CutI.row {w W W' : World} {n s : Nat} {A : Option Addr} {b : List UInt8} {pre : List Nat} {lv : Value} {row : Option Nat} (h : CutI w n A b s pre lv W) (hw : w.heap.size = s) (hA : ∀ c o, A = some ⟨c, o, none⟩ → b ≠ [] → c < s) (hg : W.grownBy W' row) (hr : RowY (s + 1) (s + 3) W row) : CutI w n A b s pre lv W' := by
 obtain ⟨h1, h2, h3, h4⟩ := h
 refine ⟨blk_keep h1 (gb_chg hg) (hr.not h1 (by omega)), ?_, hr.chg hg h3 (by omega) (by omega), hr.rd hg h4 (fun c o e hl => by have := hA c o e hl; omega)⟩
 have hge := fun g e => (h2.ge (g := g) e).1
 refine h2.keep (gb_chg hg) (fun g e => ?_) (fun a vs hv => ?_)
 ·obtain ⟨xss, hro, _⟩ := h2
  rcases hro.2 with ⟨h0, _⟩ | ⟨g2, cap, cur, h5, hB, hb, _⟩
  ·rw [h0] at e; simp [Value.ownBlock] at e
  ·rw [h5] at e
   obtain rfl : g2 = g := by simpa [Value.ownBlock] using e
   exact hr.not hb (by omega)
 ·obtain ⟨m, e1, ⟨A2, c2, q1, q2, q3, q4, q5⟩, e3⟩ := hv
  exact ⟨m, e1, ⟨A2, c2, q1, q2, q3, hr.rd hg q4 (fun b2 o2 e hl => by have := (q5 b2 o2 e hl).1; omega), q5⟩, e3⟩
theorem pieces_ok (A : Option Addr) (m c n : Nat) (w : World) : Calls Tryz.prog 177 #[.slice A m c, .int .i64 (n : Int)] w fun e w' =>
  e = .returned (.func (.func 245) #[] #[.pointer (some ⟨w.heap.size, 0, none⟩), .pointer (some ⟨w.heap.size + 1, 0, none⟩)]) ∧ w' = (w.alloc (.cells #[.slice A m c] 32)).alloc (.cells #[.int .i64 (n : Int)] 3) := by
 have hmf := mk_func
 go_enter Tryz.func177, Tryz.ntmps177
 go_wp2
 go_ret
 exact ⟨rfl, rfl⟩
theorem res_cut {tmps : Array Value} {W : World} {v : Value} (hp : tmps.getD 4 undef = v) : (results Tryz.f103 tmps).run Tryz.prog W = .ok v W := by
 have hp' : tmps[4]?.getD undef = v := by simpa using hp
 simp [results, Tryz.results103, hp', go_sem]
theorem Cut_ok (A : Option Addr) (b : List UInt8) (c n : Nat) (w : World) (hr : Rd w A b) (hc : b.length ≤ c) (hcm : c ≤ maxLen) (hn : 1 ≤ n) (hn2 : n ≤ 1000000) (hbl : b.length ≤ 900000) :
  Calls Tryz.prog 103 #[.slice A b.length c, .int .i64 (n : Int)] w fun e w' => ∃ v, e = .returned v ∧ OwnL (msgV (Exc w.heap.size v)) w.heap.size 32 1 w' v (cutL b n) ∧ Chg Non w w' := by
 have HR := Lh hr
 have hA0 : ∀ x o, A = some ⟨x, o, none⟩ → b ≠ [] → x < w.heap.size := fun x o e hl => by
  obtain ⟨y, r, rfl⟩ := List.exists_cons_of_ne_nil hl
  obtain ⟨b', o', e', hc⟩ := hr 0 y rfl
  rw [e] at e'
  injection e' with e'
  injection e' with e1 e2
  subst e1
  exact lt_of_cell hc
 have hA1 : 0 < b.length → ∃ blk o, A = some ⟨blk, o, none⟩ := fun h => by obtain ⟨blk, o, e, _⟩ := hr.at_ h; exact ⟨blk, o, e⟩
 clear hr
 refine (callsIn_wide (n := 3)).1 ?_
 have hro : Fence.wide.round = none := rfl
 refine callsIn_of_wp_marks Tryz.func103 rfl trivial ?_ hro
 simp only [Tryz.ntmps103, List.size_toArray, List.length_cons, List.length_nil, Nat.reduceAdd, Nat.reduceSub, Array.replicate_succ, Array.replicate_zero, List.push_toArray, List.append_toArray, List.nil_append, List.cons_append]
 refine wpIn_wide.2 ?_
 go_wp2_with fail
 refine (pieces_ok A b.length c n _).mono ?_
 rintro e u ⟨rfl, rfl⟩
 go_wp2_with fail
 obtain ⟨s, hs⟩ : ∃ s, w.heap.size = s := ⟨_, rfl⟩
 have q0 := al_3_0 w (.cells #[.slice none 0 0] 166) (.cells #[.slice A b.length c] 32) (.cells #[.int .i64 (n : Int)] 3)
 have q1 := al_3_1 w (.cells #[.slice none 0 0] 166) (.cells #[.slice A b.length c] 32) (.cells #[.int .i64 (n : Int)] 3)
 have q2 := al_3_2 w (.cells #[.slice none 0 0] 166) (.cells #[.slice A b.length c] 32) (.cells #[.int .i64 (n : Int)] 3)
 have hgV : Chg Non w (((w.alloc (.cells #[.slice none 0 0] 166)).alloc (.cells #[.slice A b.length c] 32)).alloc (.cells #[.int .i64 (n : Int)] 3)) := (((Chg.refl Non w).alloc _).alloc _).alloc _
 have hsz : (((w.alloc (.cells #[.slice none 0 0] 166)).alloc (.cells #[.slice A b.length c] 32)).alloc (.cells #[.int .i64 (n : Int)] 3)).heap.size = s + 3 := by rw [← hs]; simp
 obtain ⟨V, hV⟩ : ∃ V, ((w.alloc (.cells #[.slice none 0 0] 166)).alloc (.cells #[.slice A b.length c] 32)).alloc (.cells #[.int .i64 (n : Int)] 3) = V := ⟨_, rfl⟩
 rw [hs] at q0 q1 q2
 rw [hV] at q0 q1 q2 hgV hsz ⊢
 have hs1 : (w.alloc (.cells #[.slice none 0 0] 166)).heap.size = s + 1 := by rw [← hs]; simp
 try rw [hs1]
 rw [hs]
 clear hV hs1
 have HS := Lh hs
 have hA0' : ∀ x o, A = some ⟨x, o, none⟩ → b ≠ [] → x < s := by rw [← hs]; exact hA0
 have hI0 : CutI w n A b s [] (.slice none 0 0) V := ⟨q0, OwnL.nil _ _ _ _ _, hgV, HR.out.non hgV⟩
 have hss : SeqX Fence.wide 2 Tryz.prog 245 #[.pointer (some ⟨s + 1, 0, none⟩), .pointer (some ⟨s + 1 + 1, 0, none⟩)] (pcE A n b.length) (K2 (s + 1) (s + 1 + 1)) (fun r => r = s + 1) (fun xs => xs = List.range (cutN n b.length)) (fun _ => True) (cutN n b.length + 1) V := by
  intro l J Jx W hW hJ hJx hY h0
  have hg : Chg Non V W := Chg.of_below hW (Nat.le_refl _)
  rw [hsz] at hJ hJx
  have key : ∃ blk o, 0 < b.length → A = some ⟨blk, o, none⟩ := by
   by_cases h : 0 < b.length
   ·obtain ⟨blk, o, e⟩ := hA1 h
    exact ⟨blk, o, fun _ => e⟩
   ·exact ⟨0, 0, fun h' => absurd h' h⟩
  obtain ⟨blk, o, hAe⟩ := key
  refine (pcs1 2 (by omega) n b.length c blk o (s + 1) (s + 1 + 1) hn hn2 (by omega) l J Jx (s + 3) (by omega) W hJ hJx A hAe hc hcm hY (blk_keep q1 hg (fun e => e)) (blk_keep q2 hg (fun e => e)) h0).mono ?_
  rintro e W' ⟨h1, h2 | ⟨pre, _, h2⟩⟩
  ·exact ⟨h1, .inl h2⟩
  ·exact ⟨h1, .inr ⟨pre, trivial, h2⟩⟩
 clear q0 q1 q2 hA1
 refine (wpIn_wide (n := 3)).1 (wpIn_rangeX hro (by omega) (gf := 245) (lb := #[.pointer (some ⟨s + 1, 0, none⟩), .pointer (some ⟨s + 1 + 1, 0, none⟩)]) rfl trivial (enters_of Tryz.func245 (by kernel_rfl) rfl)
   hss K2.trans (fun W l o o' _ h1 h2 => K2.put W l o o' h1 h2) (fun _ => rfl)
   (fun pre W => ∃ lv, CutI w n A b s pre lv W) (fun _ _ => False)
   (fun pre W W' row ⟨lv, h⟩ hg hr => ⟨lv, h.row hs hA0' hg (by rw [hsz] at hr; exact hr)⟩) (fun _ _ _ _ h => h.elim) ⟨_, hI0⟩
   (fun k => { tmps := #[.slice A b.length c, .int .i64 (n : Int), undef, undef, .slice none 0 0, .pointer (some ⟨s, 0, none⟩), pcV A n b.length k, .int .i64 (n : Int), .bool (decide ((n : Int) < 1)), .slice A b.length c, .int .i64 (n : Int), .func (.func 245) #[] #[.pointer (some ⟨s + 1, 0, none⟩), .pointer (some ⟨s + 1 + 1, 0, none⟩)], pcV A n b.length k, undef, undef, undef, undef, undef, undef], defers := [] })
   ?assign ?body ?done ?stop)
 case stop => exact fun _ _ _ _ _ h => h.elim
 case assign =>
  rintro l k W K hK
  have H := Lh hK
  clear hK
  dsimp only [pcE] at H ⊢
  gi_wp2
  exact H.out
 case done =>
  rintro Dd zs W hDd rfl ⟨lv, hI⟩ hK
  have HI := Lh hI
  have HKK := Lh hK
  have HDd := Lh hDd
  have k0 := blk_cell hI.box 0 (v := lv) rfl
  clear hI hK hss hI0 hDd
  go_wp2_with fail
  refine ⟨by simp, .inl ⟨_, _, rfl, run_takeDeferred HKK.out, ?_⟩⟩
  have hfin := HI.out.row hs hA0' (grownBy_putObj' W Dd (.deferred none)) (fun r e => by injection e with e; subst e; exact .inr ⟨by have := HDd.out; omega, _, HKK.out, rfl⟩)
  refine ⟨_, res_cut rfl, lv, rfl, ?_, hfin.g⟩
  rw [cut_is, hs]
  exact (hfin.own.base (by omega)).mono (fun _ _ h => h.mono (fun x e => ⟨by have := e.1; omega, e.2⟩))
 case body =>
  rintro l pre k W hl ⟨r, hlr⟩ ⟨lv, hI⟩ hlt2
  have HI0 := Lh hI
  have hpl : pre.length ≤ 900001 := by
   have : cutN n b.length ≤ b.length := by
    rcases Nat.eq_zero_or_pos (cutN n b.length) with h | h
    ·omega
    ·have h1 := (cut_more (n := n) (m := b.length) (k := cutN n b.length - 1) (by omega)).1 (by omega)
     have h2 : 1 * (cutN n b.length - 1) ≤ n * (cutN n b.length - 1) := Nat.mul_le_mul_right _ hn
     omega
   omega
  obtain ⟨q, hq⟩ : ∃ q, min n (b.length - n * k) = q := ⟨_, rfl⟩
  have hpl2 : (pcL b n k).length = q := by rw [pcL_len, hq]
  have hpc : pcV A n b.length k = .slice (A.map fun a => ⟨a.block, a.off + n * k, none⟩) q q := by unfold pcV; rw [hq]
  obtain ⟨AK, hAK⟩ : ∃ AK, (A.map fun a : Addr => (⟨a.block, a.off + n * k, none⟩ : Addr)) = AK := ⟨_, rfl⟩
  have HCl : Hid (∀ U, CutI w n A b s pre lv U → Calls Tryz.prog 81 #[.slice AK q q] U (RetB U (pcL b n k))) := Lh (fun U hU => by
    have h := Clone_any AK (pcL b n k) q U (by rw [← hAK]; exact pc_rd hU.rd n k) (by omega)
    rwa [hpl2] at h)
  rw [hAK] at hpc
  rw [hpc]
  have HQl := Lh hpl2
  have HQb : Hid (q ≤ 1000000) := Lh (by omega)
  clear hpc hAK hI hq hpl2 hss hI0
  obtain ⟨V1, hV1⟩ : ∃ V1, V1 = W.drew := ⟨_, rfl⟩
  have hgV1 : Chg Non W V1 := by rw [hV1]; exact (Chg.refl Non W).drew
  have HI : Hid (CutI w n A b s pre lv V1) := Lh (HI0.out.non hgV1)
  have HG1 := Lh hgV1
  clear hgV1
  refine wpIn_block ?_
  have hV0 := hV1
  refine region_inR (S := fun _ => True) (by kernel_rfl) (by kernel_rfl) (fun ⟨_, _, h⟩ => h) trivial (fun _ => ?_)
  rw [← hV1]
  clear hV1 hV0
  refine hp 1 14 (.slice AK q q) rfl trivial ?_
  have HSW : Hid (s + 3 ≤ W.heap.size) := Lh (by have h2 := (Array.getElem?_eq_some_iff.1 hlr).1; omega)
  have HIV := Lh HI.out
  have HSV : Hid (s + 3 ≤ V1.heap.size) := Lh (by have h1 := HG1.out.size; have h2 := (Array.getElem?_eq_some_iff.1 hlr).1; omega)
  refine hTwo 0 2 (by kernel_rfl) rfl rfl (by kernel_rfl) (by kernel_rfl) ?_ ?_
  ·intro K hK
   have b0 := blk_cell HI.out.box 0 (v := lv) rfl
   go_simp
   refine hK.out _ _ trivial (fun _ => ?_)
   clear hK K
   try simp only [Act.put, sA, sB, sC]
   clear b0
   refine h1o 2 rfl ?_
   intro K hK
   go_simp
   refine (HCl.out _ HI.out).mono ?_
   rintro e u ⟨A5, c5, rfl, p1, p2, p3, p4⟩
   rw [HQl.out] at p1 ⊢
   have HM := Lh (And.intro p1 (And.intro p2 p3))
   have HI := Lh (HI.out.non p4)
   have HGu := Lh (HG1.out.then_non p4)
   refine hK.out _ _ trivial (fun _ => ?_)
   clear hK K
   try simp only [Act.put, sA, sB, sC]
   clear p1 p2 p3 p4
   refine h1o 3 rfl ?_
   intro K hK
   go_simp
   refine hK.out _ _ trivial (fun _ => ?_)
   clear hK K
   try simp only [Act.put, sA, sB, sC]
   have HBk := Lh (blk_new u (.cells #[.slice A5 q c5] 32))
   have hg8 : Chg Non u (u.alloc (.cells #[.slice A5 q c5] 32)) := (Chg.refl Non u).alloc _
   have HI := Lh (HI.out.non hg8)
   have HGu := Lh (HGu.out.then_non hg8)
   have HM := Lh (And.intro HM.out.1 (And.intro HM.out.2.1 (HM.out.2.2.non hg8)))
   clear hg8
   obtain ⟨W8, hW8⟩ : ∃ W8, u.alloc (.cells #[.slice A5 q c5] 32) = W8 := ⟨_, rfl⟩
   rw [hW8] at HBk HI HGu HM ⊢
   clear hW8
   refine h1o 4 rfl ?_
   intro K hK
   have hge := fun g e => HI.out.own.ge (g := g) e
   have hg0 := fun g e => HIV.out.own.ge (g := g) e
   have hsV : s + 3 ≤ V1.heap.size := HSV.out
   refine wp_snocL (msgV (fun x => Exc (s + 3) lv x ∧ x < W8.heap.size)) (.tmp 13) (.tmp 16) 166 rfl (s + 3) 32 _ 1 24 Tryz.underlying166 info_by1 rfl (by omega) lv (pre.map (pcL b n)) rfl (HI.out.own.mono (fun _ _ h => h.bound)) u.heap.size (pcL b n k) #[.slice A5 q c5] 32 rfl HBk.out rfl (by simp [Value.oneCell']) (by rw [List.length_map]; omega) (by omega) (by have := HGu.out.size; have := HSW.out; omega) (fun _ _ _ hg h => h.keep hg (fun x e => e.1.2)) ?_ ?_
   ·refine ⟨_, rfl, ?_, by rw [HQl.out]; have := HQb.out; omega⟩
    have h := own_bytes HM.out.2.2 (by rw [HQl.out]; exact HM.out.1) HM.out.2.1
    rw [HQl.out] at h
    refine h.bound.mono (fun x e => ⟨⟨?_, fun e2 => ?_⟩, e.2⟩)
    ·have h1 : V1.heap.size ≤ x := e.1
     omega
    ·have h1 : V1.heap.size ≤ x := e.1
     have := (hg0 x e2).2
     omega
   intro v2 w2 ho hg hv
   obtain ⟨A6, c6, hv6, _⟩ := ho.rd
   obtain ⟨n6, hn6⟩ : ∃ x, (pre.map (pcL b n) ++ [pcL b n k]).length = x := ⟨_, rfl⟩
   rw [hn6] at hv6
   subst hv6
   clear hn6
   have HO2 : Hid (OwnL (msgV (Exc (s + 3) (.slice A6 n6 c6))) (s + 3) 32 1 w2 (.slice A6 n6 c6) ((pre ++ [k]).map (pcL b n))) := Lh (by
     rw [List.map_append]
     refine ho.mono (fun a vs h => h.mono (fun x e => ⟨e.1.1, fun e2 => ?_⟩))
     rcases hv x e2 with e3 | e3
     · exact e.1.2 e3
     · have := e.2; omega)
   have hns : ¬ lv.ownBlock = some s := fun e => by have := (hge s e).1; omega
   have HB9 := Lh (blk_keep HI.out.box hg hns)
   have hcs : ∀ x o, lv.ownBlock = some x → W8.heap[x]? = some o → o.isCells = true := fun x o e ho2 => by
    obtain ⟨xss, hro, _⟩ := HI.out.own
    rcases hro.2 with ⟨h0, _⟩ | ⟨g2, cap, cur, h5, hB, hb, _⟩
    ·rw [h0] at e; simp [Value.ownBlock] at e
    ·rw [h5] at e
     obtain rfl : g2 = x := by simpa [Value.ownBlock] using e
     rw [hb] at ho2
     injection ho2 with ho2
     subst ho2
     rfl
   have HKp : Hid (K2 (s + 1) (s + 1 + 1) W8 w2 ∧ KeepsFrom V.heap.size W8 w2 ∧ Chg Non w w2 ∧ Rd w2 A b) := Lh ⟨K2.of_chg hg (fun e => by have := (hge _ e).1; omega) (fun e => by have := (hge _ e).1; omega), keepsFrom_of _ hg hcs,
     HI.out.g.then_new hg (fun x e => by have := (hge _ e).1; omega), HI.out.rd.keep hg (fun x o e hl e2 => by have := hA0' x o e hl; have := (hge _ e2).1; omega)⟩
   have b9 := blk_cell HB9.out 0 (v := lv) rfl
   have f9 := blk_free HB9.out 0
   have l9 := blk_lt HB9.out
   refine hK.out _ _ trivial (fun _ => ?_)
   clear hK K ho hg hv hcs hns hge hg0
   try simp only [Act.put, sA, sB, sC]
   refine h1o 5 rfl ?_
   intro K hK
   go_simp
   refine hK.out _ _ trivial (fun _ => ?_)
   clear hK K
   try simp only [Act.put, sA, sB, sC]
   refine hdn ?_ _
   have hset := chg_set w2 s 0 (.slice A6 n6 c6)
   have h2 := HO2.out
   have hge2 := fun g e => (h2.ge (g := g) e).1
   obtain ⟨z1, z2, z3, z4⟩ := HKp.out
   have hsV3 : V.heap.size = s + 3 := hsz
   refine ⟨((keepsFrom_non _ HGu.out).trans z2).trans (keepsFrom_lt hset (fun x e => by have e : x = s := e; omega)), ((K2.of_chg HGu.out (fun e => e) (fun e => e)).trans z1).trans (K2.of_chg hset (fun e => by have e : s + 1 = s := e; omega) (fun e => by have e : s + 1 + 1 = s := e; omega)), (.slice A6 n6 c6), ⟨?_, ?_, ?_, ?_⟩⟩
   ·exact blk_set 0 (.slice A6 n6 c6) HB9.out
   ·exact h2.keep hset (fun g e e2 => by have e2 : g = s := e2; have := hge2 g e; omega) (fun _ _ h => h.keep hset (fun x e e2 => by have e2 : x = s := e2; have := e.1; omega))
   ·exact z3.then_new hset (fun x e => by have e : x = s := e; omega)
   ·exact z4.keep hset (fun x o e hl e2 => by have e2 : x = s := e2; have := hA0' x o e hl; omega)
  ·intro K hK
   go_simp
   refine (HCl.out _ HI.out).mono ?_
   rintro e u ⟨A5, c5, rfl, p1, p2, p3, p4⟩
   rw [HQl.out] at p1 ⊢
   have HM := Lh (And.intro p1 (And.intro p2 p3))
   have HI := Lh (HI.out.non p4)
   have HGu := Lh (HG1.out.then_non p4)
   refine hK.out _ _ trivial (fun _ => ?_)
   clear hK K
   try simp only [Act.put, sA, sB, sC]
   clear p1 p2 p3 p4
   refine hTwo 0 3 (by kernel_rfl) rfl rfl (by kernel_rfl) (by kernel_rfl) ?_ ?_
   ·intro K hK
    have b0 := blk_cell HI.out.box 0 (v := lv) rfl
    go_simp
    refine hK.out _ _ trivial (fun _ => ?_)
    clear hK K
    try simp only [Act.put, sA, sB, sC]
    clear b0
    refine h1o 3 rfl ?_
    intro K hK
    go_simp
    refine hK.out _ _ trivial (fun _ => ?_)
    clear hK K
    try simp only [Act.put, sA, sB, sC]
    have HBk := Lh (blk_new u (.cells #[.slice A5 q c5] 32))
    have hg8 : Chg Non u (u.alloc (.cells #[.slice A5 q c5] 32)) := (Chg.refl Non u).alloc _
    have HI := Lh (HI.out.non hg8)
    have HGu := Lh (HGu.out.then_non hg8)
    have HM := Lh (And.intro HM.out.1 (And.intro HM.out.2.1 (HM.out.2.2.non hg8)))
    clear hg8
    obtain ⟨W8, hW8⟩ : ∃ W8, u.alloc (.cells #[.slice A5 q c5] 32) = W8 := ⟨_, rfl⟩
    rw [hW8] at HBk HI HGu HM ⊢
    clear hW8
    refine h1o 4 rfl ?_
    intro K hK
    have hge := fun g e => HI.out.own.ge (g := g) e
    have hg0 := fun g e => HIV.out.own.ge (g := g) e
    have hsV : s + 3 ≤ V1.heap.size := HSV.out
    refine wp_snocL (msgV (fun x => Exc (s + 3) lv x ∧ x < W8.heap.size)) (.tmp 13) (.tmp 16) 166 rfl (s + 3) 32 _ 1 24 Tryz.underlying166 info_by1 rfl (by omega) lv (pre.map (pcL b n)) rfl (HI.out.own.mono (fun _ _ h => h.bound)) u.heap.size (pcL b n k) #[.slice A5 q c5] 32 rfl HBk.out rfl (by simp [Value.oneCell']) (by rw [List.length_map]; omega) (by omega) (by have := HGu.out.size; have := HSW.out; omega) (fun _ _ _ hg h => h.keep hg (fun x e => e.1.2)) ?_ ?_
    ·refine ⟨_, rfl, ?_, by rw [HQl.out]; have := HQb.out; omega⟩
     have h := own_bytes HM.out.2.2 (by rw [HQl.out]; exact HM.out.1) HM.out.2.1
     rw [HQl.out] at h
     refine h.bound.mono (fun x e => ⟨⟨?_, fun e2 => ?_⟩, e.2⟩)
     ·have h1 : V1.heap.size ≤ x := e.1
      omega
     ·have h1 : V1.heap.size ≤ x := e.1
      have := (hg0 x e2).2
      omega
    intro v2 w2 ho hg hv
    obtain ⟨A6, c6, hv6, _⟩ := ho.rd
    obtain ⟨n6, hn6⟩ : ∃ x, (pre.map (pcL b n) ++ [pcL b n k]).length = x := ⟨_, rfl⟩
    rw [hn6] at hv6
    subst hv6
    clear hn6
    have HO2 : Hid (OwnL (msgV (Exc (s + 3) (.slice A6 n6 c6))) (s + 3) 32 1 w2 (.slice A6 n6 c6) ((pre ++ [k]).map (pcL b n))) := Lh (by
      rw [List.map_append]
      refine ho.mono (fun a vs h => h.mono (fun x e => ⟨e.1.1, fun e2 => ?_⟩))
      rcases hv x e2 with e3 | e3
      · exact e.1.2 e3
      · have := e.2; omega)
    have hns : ¬ lv.ownBlock = some s := fun e => by have := (hge s e).1; omega
    have HB9 := Lh (blk_keep HI.out.box hg hns)
    have hcs : ∀ x o, lv.ownBlock = some x → W8.heap[x]? = some o → o.isCells = true := fun x o e ho2 => by
     obtain ⟨xss, hro, _⟩ := HI.out.own
     rcases hro.2 with ⟨h0, _⟩ | ⟨g2, cap, cur, h5, hB, hb, _⟩
     ·rw [h0] at e; simp [Value.ownBlock] at e
     ·rw [h5] at e
      obtain rfl : g2 = x := by simpa [Value.ownBlock] using e
      rw [hb] at ho2
      injection ho2 with ho2
      subst ho2
      rfl
    have HKp : Hid (K2 (s + 1) (s + 1 + 1) W8 w2 ∧ KeepsFrom V.heap.size W8 w2 ∧ Chg Non w w2 ∧ Rd w2 A b) := Lh ⟨K2.of_chg hg (fun e => by have := (hge _ e).1; omega) (fun e => by have := (hge _ e).1; omega), keepsFrom_of _ hg hcs,
      HI.out.g.then_new hg (fun x e => by have := (hge _ e).1; omega), HI.out.rd.keep hg (fun x o e hl e2 => by have := hA0' x o e hl; have := (hge _ e2).1; omega)⟩
    have b9 := blk_cell HB9.out 0 (v := lv) rfl
    have f9 := blk_free HB9.out 0
    have l9 := blk_lt HB9.out
    refine hK.out _ _ trivial (fun _ => ?_)
    clear hK K ho hg hv hcs hns hge hg0
    try simp only [Act.put, sA, sB, sC]
    refine h1o 5 rfl ?_
    intro K hK
    go_simp
    refine hK.out _ _ trivial (fun _ => ?_)
    clear hK K
    try simp only [Act.put, sA, sB, sC]
    refine hdn ?_ _
    have hset := chg_set w2 s 0 (.slice A6 n6 c6)
    have h2 := HO2.out
    have hge2 := fun g e => (h2.ge (g := g) e).1
    obtain ⟨z1, z2, z3, z4⟩ := HKp.out
    have hsV3 : V.heap.size = s + 3 := hsz
    refine ⟨((keepsFrom_non _ HGu.out).trans z2).trans (keepsFrom_lt hset (fun x e => by have e : x = s := e; omega)), ((K2.of_chg HGu.out (fun e => e) (fun e => e)).trans z1).trans (K2.of_chg hset (fun e => by have e : s + 1 = s := e; omega) (fun e => by have e : s + 1 + 1 = s := e; omega)), (.slice A6 n6 c6), ⟨?_, ?_, ?_, ?_⟩⟩
    ·exact blk_set 0 (.slice A6 n6 c6) HB9.out
    ·exact h2.keep hset (fun g e e2 => by have e2 : g = s := e2; have := hge2 g e; omega) (fun _ _ h => h.keep hset (fun x e e2 => by have e2 : x = s := e2; have := e.1; omega))
    ·exact z3.then_new hset (fun x e => by have e : x = s := e; omega)
    ·exact z4.keep hset (fun x o e hl e2 => by have e2 : x = s := e2; have := hA0' x o e hl; omega)
   ·intro K hK
    go_simp
    refine hK.out _ _ trivial (fun _ => ?_)
    clear hK K
    try simp only [Act.put, sA, sB, sC]
    have HBk := Lh (blk_new u (.cells #[.slice A5 q c5] 32))
    have hg8 : Chg Non u (u.alloc (.cells #[.slice A5 q c5] 32)) := (Chg.refl Non u).alloc _
    have HI := Lh (HI.out.non hg8)
    have HGu := Lh (HGu.out.then_non hg8)
    have HM := Lh (And.intro HM.out.1 (And.intro HM.out.2.1 (HM.out.2.2.non hg8)))
    clear hg8
    obtain ⟨W8, hW8⟩ : ∃ W8, u.alloc (.cells #[.slice A5 q c5] 32) = W8 := ⟨_, rfl⟩
    rw [hW8] at HBk HI HGu HM ⊢
    clear hW8
    refine h1o 0 rfl ?_
    intro K hK
    have b0 := blk_cell HI.out.box 0 (v := lv) rfl
    go_simp
    refine hK.out _ _ trivial (fun _ => ?_)
    clear hK K
    try simp only [Act.put, sA, sB, sC]
    clear b0
    refine h1o 4 rfl ?_
    intro K hK
    have hge := fun g e => HI.out.own.ge (g := g) e
    have hg0 := fun g e => HIV.out.own.ge (g := g) e
    have hsV : s + 3 ≤ V1.heap.size := HSV.out
    refine wp_snocL (msgV (fun x => Exc (s + 3) lv x ∧ x < W8.heap.size)) (.tmp 13) (.tmp 16) 166 rfl (s + 3) 32 _ 1 24 Tryz.underlying166 info_by1 rfl (by omega) lv (pre.map (pcL b n)) rfl (HI.out.own.mono (fun _ _ h => h.bound)) u.heap.size (pcL b n k) #[.slice A5 q c5] 32 rfl HBk.out rfl (by simp [Value.oneCell']) (by rw [List.length_map]; omega) (by omega) (by have := HGu.out.size; have := HSW.out; omega) (fun _ _ _ hg h => h.keep hg (fun x e => e.1.2)) ?_ ?_
    ·refine ⟨_, rfl, ?_, by rw [HQl.out]; have := HQb.out; omega⟩
     have h := own_bytes HM.out.2.2 (by rw [HQl.out]; exact HM.out.1) HM.out.2.1
     rw [HQl.out] at h
     refine h.bound.mono (fun x e => ⟨⟨?_, fun e2 => ?_⟩, e.2⟩)
     ·have h1 : V1.heap.size ≤ x := e.1
      omega
     ·have h1 : V1.heap.size ≤ x := e.1
      have := (hg0 x e2).2
      omega
    intro v2 w2 ho hg hv
    obtain ⟨A6, c6, hv6, _⟩ := ho.rd
    obtain ⟨n6, hn6⟩ : ∃ x, (pre.map (pcL b n) ++ [pcL b n k]).length = x := ⟨_, rfl⟩
    rw [hn6] at hv6
    subst hv6
    clear hn6
    have HO2 : Hid (OwnL (msgV (Exc (s + 3) (.slice A6 n6 c6))) (s + 3) 32 1 w2 (.slice A6 n6 c6) ((pre ++ [k]).map (pcL b n))) := Lh (by
      rw [List.map_append]
      refine ho.mono (fun a vs h => h.mono (fun x e => ⟨e.1.1, fun e2 => ?_⟩))
      rcases hv x e2 with e3 | e3
      · exact e.1.2 e3
      · have := e.2; omega)
    have hns : ¬ lv.ownBlock = some s := fun e => by have := (hge s e).1; omega
    have HB9 := Lh (blk_keep HI.out.box hg hns)
    have hcs : ∀ x o, lv.ownBlock = some x → W8.heap[x]? = some o → o.isCells = true := fun x o e ho2 => by
     obtain ⟨xss, hro, _⟩ := HI.out.own
     rcases hro.2 with ⟨h0, _⟩ | ⟨g2, cap, cur, h5, hB, hb, _⟩
     ·rw [h0] at e; simp [Value.ownBlock] at e
     ·rw [h5] at e
      obtain rfl : g2 = x := by simpa [Value.ownBlock] using e
      rw [hb] at ho2
      injection ho2 with ho2
      subst ho2
      rfl
    have HKp : Hid (K2 (s + 1) (s + 1 + 1) W8 w2 ∧ KeepsFrom V.heap.size W8 w2 ∧ Chg Non w w2 ∧ Rd w2 A b) := Lh ⟨K2.of_chg hg (fun e => by have := (hge _ e).1; omega) (fun e => by have := (hge _ e).1; omega), keepsFrom_of _ hg hcs,
      HI.out.g.then_new hg (fun x e => by have := (hge _ e).1; omega), HI.out.rd.keep hg (fun x o e hl e2 => by have := hA0' x o e hl; have := (hge _ e2).1; omega)⟩
    have b9 := blk_cell HB9.out 0 (v := lv) rfl
    have f9 := blk_free HB9.out 0
    have l9 := blk_lt HB9.out
    refine hK.out _ _ trivial (fun _ => ?_)
    clear hK K ho hg hv hcs hns hge hg0
    try simp only [Act.put, sA, sB, sC]
    refine h1o 5 rfl ?_
    intro K hK
    go_simp
    refine hK.out _ _ trivial (fun _ => ?_)
    clear hK K
    try simp only [Act.put, sA, sB, sC]
    refine hdn ?_ _
    have hset := chg_set w2 s 0 (.slice A6 n6 c6)
    have h2 := HO2.out
    have hge2 := fun g e => (h2.ge (g := g) e).1
    obtain ⟨z1, z2, z3, z4⟩ := HKp.out
    have hsV3 : V.heap.size = s + 3 := hsz
    refine ⟨((keepsFrom_non _ HGu.out).trans z2).trans (keepsFrom_lt hset (fun x e => by have e : x = s := e; omega)), ((K2.of_chg HGu.out (fun e => e) (fun e => e)).trans z1).trans (K2.of_chg hset (fun e => by have e : s + 1 = s := e; omega) (fun e => by have e : s + 1 + 1 = s := e; omega)), (.slice A6 n6 c6), ⟨?_, ?_, ?_, ?_⟩⟩
    ·exact blk_set 0 (.slice A6 n6 c6) HB9.out
    ·exact h2.keep hset (fun g e e2 => by have e2 : g = s := e2; have := hge2 g e; omega) (fun _ _ h => h.keep hset (fun x e e2 => by have e2 : x = s := e2; have := e.1; omega))
    ·exact z3.then_new hset (fun x e => by have e : x = s := e; omega)
    ·exact z4.keep hset (fun x o e hl e2 => by have e2 : x = s := e2; have := hA0' x o e hl; omega)
end
section
open Go.RowKit Go.Shelf
attribute [local go_sem] Oper.semAt_some
def spos (o E k : Nat) : Nat := if k = 0 then o else min ((o / 64 + k) * 64) E
theorem spos_step {o E k : Nat} (h : spos o E k < E) : spos o E k + (min 64 (spos o E k % 64 + E - spos o E k) - spos o E k % 64) = spos o E (k + 1) ∧ spos o E k < spos o E (k + 1) := by
 unfold spos at h ⊢
 rw [if_neg (by omega : ¬ k + 1 = 0)]
 by_cases hk : k = 0
 ·subst hk
  rw [if_pos rfl] at h ⊢
  omega
 ·rw [if_neg hk] at h ⊢
  have hm : min ((o / 64 + k) * 64) E = (o / 64 + k) * 64 := by omega
  rw [hm] at h ⊢
  have h0 : (o / 64 + k) * 64 % 64 = 0 := by omega
  rw [h0]
  omega
theorem spos_le {o E k : Nat} (h : o ≤ E) : spos o E k ≤ E := by
 unfold spos
 split <;> omega
def spE (s E p : Nat) : Array Value := #[.agg #[.int .i64 (3 + s * 64 + p / 64 : Nat), .int .i64 (p % 64 : Nat), .int .i64 (min 64 (p % 64 + E - p) : Nat)]]
def Sps (o E : Nat) (pre : List Nat) : Prop := ∀ i x, pre[i]? = some x → x = spos o E i ∧ x < E
theorem Sps.snoc {o E : Nat} {pre : List Nat} (h : Sps o E pre) (hl : spos o E pre.length < E) : Sps o E (pre ++ [spos o E pre.length]) := fun i x hx => by
 by_cases hi : i < pre.length
 ·exact h i x (by rw [← hx, List.getElem?_append_left hi])
 ·rw [List.getElem?_append_right (by omega)] at hx
  have hi0 : i - pre.length = 0 := by
   have := (List.getElem?_eq_some_iff.1 hx).1
   simp at this
   omega
  rw [hi0] at hx
  simp at hx
  subst hx
  have : i = pre.length := by omega
  subst this
  exact ⟨rfl, hl⟩
theorem spc1 (nn : Nat) (hnn : 1 ≤ nn) (s o n b1 b2 b3 : Nat) (hs : s ≤ 1) (ho : o + n ≤ 1000000) (hb13 : b1 ≠ b3) (l : Nat) (J Jx : List Nat → World → Prop) (B : Nat) (hB : b1 < B) (W : World) (hJ : AbX (fun r => r = b1) B J) (hJx : AbX (fun r => r = b1) B Jx)
  (hY : ∀ pre x W1, J pre W1 → pre.length < o + n + 1 → YieldAt Fence.wide (nn - 1) Tryz.prog l (spE s (o + n) x) W1 fun e W' =>
    (e = .returned (.bool true) ∧ J (pre ++ [x]) W' ∧ K2 b1 b3 W1 W') ∨ (e = .returned (.bool false) ∧ Jx (pre ++ [x]) W' ∧ K2 b1 b3 W1 W'))
  (h1 : W.heap[b1]? = some (.cells #[.int .i64 (o : Int)] 3 (0, 0))) (h2 : W.heap[b2]? = some (.cells #[.int .i64 (n : Int)] 3 (0, 0))) (h3 : W.heap[b3]? = some (.cells #[.int .i64 (s : Int)] 3 (0, 0))) (h0 : J [] W) :
  CallsIn Fence.wide nn Tryz.prog 183 #[.func (.yield l) #[] #[], .pointer (some ⟨b1, 0, none⟩), .pointer (some ⟨b2, 0, none⟩), .pointer (some ⟨b3, 0, none⟩)] W fun e W' => (∃ v, e = .returned v) ∧
   ((∃ xs, (Sps o (o + n) xs ∧ o + n ≤ spos o (o + n) xs.length) ∧ J xs W') ∨ (∃ pre : List Nat, (Sps o (o + n) pre ∧ pre ≠ []) ∧ Jx pre W')) := by
 have HJ := Lh hJ
 have HJx := Lh hJx
 have HY := Lh hY
 have HB3 := Lh h3
 have k1 := blk_cell h1 0 (v := .int .i64 (o : Int)) rfl
 have k2 := blk_cell h2 0 (v := .int .i64 (n : Int)) rfl
 obtain ⟨E, hE⟩ : ∃ E, o + n = E := ⟨_, rfl⟩
 have hEi : (o : Int) + (n : Int) = (E : Int) := by omega
 rw [hE] at HY ho ⊢
 have hoE : o ≤ E := by omega
 clear hJ hJx hY h3 h2 hE
 have hro : Fence.wide.round = none := rfl
 refine callsIn_of_wp Tryz.func183 rfl trivial ?_ hro
 simp only [Tryz.ntmps183, List.size_toArray, List.length_cons, List.length_nil, Nat.reduceAdd, Nat.reduceSub, Array.replicate_succ, Array.replicate_zero, List.push_toArray, List.append_toArray, List.nil_append, List.cons_append]
 gi_wp2
 gi_loopw [6, 7] (fun _ _ wr => ∃ pre : List Nat, Sps o E pre ∧ J pre wr ∧ wr.heap[b1]? = some (.cells #[.int .i64 (spos o E pre.length : Nat)] 3 (0, 0)) ∧ wr.heap[b3]? = some (.cells #[.int .i64 (s : Int)] 3 (0, 0))) (fun _ _ wr => match wr.cell? ⟨b1, 0, none⟩ with | some (.int _ z) => E - z.toNat | _ => 0)
 case atStart => exact ⟨[], fun i x h => by simp at h, h0, h1, HB3.out⟩
 case round =>
  obtain ⟨pre, hpre, HJk, HB, HB3⟩ := hrel
  have HJk := Lh HJk
  have HB := Lh HB
  have HB3 := Lh HB3
  have HPr := Lh hpre
  have HPl : Hid (pre.length < E + 1) := Lh (by
    rcases Nat.eq_zero_or_pos pre.length with h | h
    · omega
    · have h1 := hpre (pre.length - 1) _ (List.getElem?_eq_getElem (by omega))
      have h2 := h1.2
      rw [h1.1] at h2
      unfold spos at h2
      split at h2 <;> omega)
  have hle := spos_le (k := pre.length) hoE
  have HS := Lh (fun h => spos_step (o := o) (E := E) (k := pre.length) h)
  have HSn := Lh (fun h => hpre.snoc h)
  clear hpre
  obtain ⟨p, hp⟩ : ∃ p, spos o E pre.length = p := ⟨_, rfl⟩
  rw [hp] at HB hle HS HSn
  have HP := Lh hp
  clear hp
  have k1 := blk_cell HB.out 0 (v := .int .i64 (p : Int)) rfl
  have k3 := blk_cell HB3.out 0 (v := .int .i64 (s : Int)) rfl
  have f1 := blk_free HB.out 0
  have hlb := blk_lt HB.out
  by_cases hlt : p < E
  ·obtain ⟨fr, hfr⟩ : ∃ fr, p % 64 = fr := ⟨_, rfl⟩
   obtain ⟨sc, hsc⟩ : ∃ sc, p / 64 = sc := ⟨_, rfl⟩
   obtain ⟨to, hto⟩ : ∃ to, min 64 (p % 64 + E - p) = to := ⟨_, rfl⟩
   obtain ⟨nx, hnx⟩ : ∃ nx, spos o E (pre.length + 1) = nx := ⟨_, rfl⟩
   have hst := HS.out hlt
   rw [hto, hfr, hnx] at hst
   have e1 : (p : Int) < (E : Int) := by omega
   have e2 : (p : Int).tmod 64 = (fr : Int) := by rw [Int.tmod_eq_emod_of_nonneg (by omega)]; omega
   have e3 : (p : Int).tdiv 64 = (sc : Int) := by rw [Int.tdiv_eq_ediv_of_nonneg (by omega)]; omega
   have e4 : min (64 : Int) ((fr : Int) + (E : Int) - (p : Int)) = (to : Int) := by omega
   have e5 : (p : Int) + ((to : Int) - (fr : Int)) = (nx : Int) := by omega
   have hb : fr ≤ 63 ∧ to ≤ 64 ∧ sc ≤ 1000000 ∧ p ≤ 1000000 ∧ nx ≤ 1000064 := by omega
   obtain ⟨fn, tmps, assign, body, hy, hR⟩ := HY.out _ p _ HJk.out HPl.out
   have ec : ((3 + s * 64 + sc : Nat) : Int) = 3 + (s : Int) * 64 + (sc : Int) := by omega
   have hpe : spE s E p = #[.agg #[.int .i64 (3 + (s : Int) * 64 + (sc : Int)), .int .i64 (fr : Nat), .int .i64 (to : Nat)]] := by unfold spE; rw [hsc, hto, hfr, ec]
   rw [hpe] at hy
   have HRR := Lh hR
   clear hR hpe
   gi_wp2_with fail
   have HC : Hid (∀ (W3 : World) (H : List Nat → World → Prop) (s : List Nat) (v : Value), AbX (fun r => r = b1) B H → H s W3 → H s (W3.setCell ⟨b1, 0, none⟩ v)) := Lh (fun W3 H s v hH hs => hH s _ _ (some b1) hs (grownBy_setCell' W3 b1 v) (fun r e => by cases e; exact ⟨rfl, hB⟩))
   have K1 := Lh k1
   have HNX := Lh hnx
   have HSn2 := Lh (HSn.out hlt)
   refine HRR.out.mono ?_
   rintro e W3 (⟨rfl, hJ3, hk3⟩ | ⟨rfl, hJ3, hk3⟩)
   ·have HB4 := Lh (hk3.one _ _ _ HB.out)
    have HB5 := Lh (hk3.two _ _ _ HB3.out)
    have HJ3 := Lh hJ3
    have k5 := blk_cell HB4.out 0 (v := .int .i64 (p : Int)) rfl
    have f5 := blk_free HB4.out 0
    have l5 := blk_lt HB4.out
    clear hk3 hJ3 k1 k3 f1
    gi_wp2
    refine ⟨⟨pre ++ [p], HSn2.out, HC.out W3 J _ _ HJ.out HJ3.out, ?_, blk_keep HB5.out (chg_set W3 b1 0 _) (fun e => hb13 e.symm)⟩, ?_⟩
    ·have h := blk_set 0 (.int .i64 (nx : Int)) HB4.out
     rw [List.length_append, List.length_singleton, HNX.out]
     exact h
    ·have h := blk_cell (blk_set 0 (.int .i64 (nx : Int)) HB4.out) 0 rfl
     have h' : (W3.setCell ⟨b1, 0, none⟩ (.int .i64 (nx : Int))).cell? ⟨b1, 0, none⟩ = some (.int .i64 (nx : Int)) := h
     rw [h', K1.out]
     show E - (nx : Int).toNat < E - (p : Int).toNat
     omega
   ·have HJ3 := Lh hJ3
    clear hk3 hJ3 k1 k3 f1
    gi_wp2
    exact bodyPost_ret (results_none Tryz.results183 _ _ _) rfl ⟨⟨_, rfl⟩, .inr ⟨_, ⟨HSn2.out, by simp⟩, HJ3.out⟩⟩
  ·have e1 : ¬ ((p : Int) < (E : Int)) := by omega
   gi_wp2
   go_end0
   exact ⟨⟨_, rfl⟩, .inl ⟨_, ⟨HPr.out, by rw [HP.out]; omega⟩, HJk.out⟩⟩
theorem spieces_ok (s o n : Int) (w : World) : Calls Tryz.prog 109 #[.int .i64 s, .int .i64 o, .int .i64 n] w fun e w' =>
  e = .returned (.func (.func 183) #[] #[.pointer (some ⟨w.heap.size + 1, 0, none⟩), .pointer (some ⟨w.heap.size + 1 + 1, 0, none⟩), .pointer (some ⟨w.heap.size, 0, none⟩)]) ∧ w' = ((w.alloc (.cells #[.int .i64 s] 3)).alloc (.cells #[.int .i64 o] 3)).alloc (.cells #[.int .i64 n] 3) := by
 have hmf := mk_func
 go_enter Tryz.func109, Tryz.ntmps109
 go_wp2
 go_ret
 exact ⟨rfl, rfl⟩
end
section
open Go.RowKit
section
variable {F : Fence} {n : Nat} {P : Program} {α : Type}
theorem wpIn_rangeA {g : Operand} {ps : Array Tmp} {assign body : Code} {Q : Exit → Act → World → Prop} {a : Act} {w : World}
  (hro : F.round = none) (h1 : 1 ≤ n) {gf : Nat} {lb : Array Value} (hg : a.eval g = .func (.func gf) #[] lb) (hFg : F.fn gf) (eg : ∀ args w, (callFunc gf args).run P w = .ok (.enter gf args) w)
  {encs : α → Array Value} {Kp : World → World → Prop} {Bx : Nat → Prop} {S Sp : List α → Prop} {N : Nat} (hseq : SeqX F (n - 1) P gf lb encs Kp Bx S Sp N w)
  (hKt : ∀ {A B C : World}, Kp A B → Kp B C → Kp A C) (hKb : ∀ (W : World) (l : Nat) (o o' : Obj), w.heap.size ≤ l → W.heap[l]? = some o → o.isCells = false → Kp W (W.putObj l o')) (hKa : ∀ (W : World) (o : Obj), Kp W (W.alloc o)) (hps : ∀ x, (encs x).size = ps.size) (ob : α → Obj) (hob : ∀ x, (ob x).isCells = true)
  (I Ix : List α → World → Prop) (hI : AbY Bx w.heap.size I) (hIx : AbY Bx w.heap.size Ix) (h0 : I [] w) (a₁ : α → Nat → Act)
  (hassign : ∀ (l : Nat) (x : α) (W : World) (K : Act → World → Prop), K (a₁ x W.heap.size) (W.alloc (ob x)) →
    assign.wpIn (F.inRound l) (n - 1 - 1) P (Exit.then K (fun _ _ _ => False)) { tmps := (ps.zip (encs x)).foldl (fun t (p, v) => t.setIfInBounds p v) a.tmps, defers := [] } W)
  (hbody : ∀ (l : Nat) (pre : List α) (x : α) (W : World) (g : Nat), W.heap[g]? = some (ob x) → w.heap.size ≤ g → w.heap.size ≤ l → (∃ r, W.heap[l]? = some (.loop r)) → I pre W → pre.length < N →
    body.wpIn (F.inRound l) (n - 1 - 1) P (fun e _ W' => match e with | .normal => KeepsFrom w.heap.size W W' ∧ Kp W W' ∧ I (pre ++ [x]) W' | .ret => KeepsFrom w.heap.size W W' ∧ Kp W W' ∧ Ix (pre ++ [x]) W' | _ => False) (a₁ x g) W)
  (hdone : ∀ (D : Nat) (xs : List α) (W : World), w.heap.size ≤ D → S xs → I xs W → W.heap[D]? = some (.deferred (some [])) → Q .normal { a with defers := { target := .collected D, args := #[] } :: a.defers } W)
  (hstop : ∀ (D : Nat) (pre : List α) (W : World), w.heap.size ≤ D → Sp pre → Ix pre W → W.heap[D]? = some (.deferred (some [])) → Code.ret.wpIn F n P Q { a with defers := { target := .collected D, args := #[] } :: a.defers } W) :
  (Code.rangeFunc g ps assign body).wpIn F n P Q a w := by
 refine wpIn_rangeFunc ?_
 intro fn hfn
 rw [hro]
 obtain ⟨rc, hrc⟩ : ∃ rc : LoopState → Option Code → Loop, rc = fun st pe => { state := st, pending := pe, fn, tmps := a.tmps, params := ps, assign, body, defers := w.heap.size } := ⟨_, rfl⟩
 obtain ⟨d, hd⟩ : ∃ d, w.heap.size = d := ⟨_, rfl⟩
 obtain ⟨V, hV⟩ : ∃ V, (w.alloc (.deferred (some []))).alloc (.loop (rc .ready none)) = V := ⟨_, rfl⟩
 have hL : V.heap[d + 1]? = some (.loop (rc .ready none)) := by
  have h := World.alloc_heap_new (w.alloc (.deferred (some []))) (.loop (rc .ready none))
  rw [World.size_alloc, hd, hV] at h
  exact h
 have hD : V.heap[d]? = some (.deferred (some [])) := by
  have h := (Below.heap_alloc (w.alloc (.deferred (some []))) (.loop (rc .ready none)) w.heap.size (by simp)).trans (World.alloc_heap_new w _)
  rw [hV, hd] at h
  exact h
 have hIV : I [] V := by rw [← hV]; exact hI.alloc _ (hI.alloc _ h0)
 have hbV : Below w.heap.size w V := by rw [← hV]; exact ((Below.refl _ w).alloc (Nat.le_refl _) _).alloc (by simp) _
 refine ⟨d + 1, [{ target := .collected d, args := #[] }], V, { target := .fn (.func gf) lb, args := #[.func (.yield (d + 1)) #[] #[]] }, V, gf, #[.func (.yield (d + 1)) #[] #[]] ++ lb, V, ?_, ?_, ?_, ?_, fun _ => h1, ?_⟩
 ·rw [← hV, hrc, ← hd]
  exact run_enterLoop_outer _ _ _ _ _
 ·simp only [resolve, hg]
  simp [go_sem]
 ·intro f' hf'
  simp [Target.leads] at hf'
  subst hf'
  exact hFg
 ·simp [invoke, go_sem, eg]
 rw [hd] at hI hIx hbody hdone hstop hKb
 refine (hseq (d + 1) (fun pre W => I pre W ∧ (W.heap[d + 1]? = some (.loop (rc .ready none)) ∧ W.heap[d]? = some (.deferred (some [])))) (fun pre W => Ix pre W ∧ (W.heap[d + 1]? = some (.loop (rc .done (some .ret))) ∧ W.heap[d]? = some (.deferred (some [])))) V hbV
   (by rw [hd]; exact hI.x.and ((AbX.blk (by omega)).and (AbX.blk (Nat.le_refl _)))) (by rw [hd]; exact hIx.x.and ((AbX.blk (by omega)).and (AbX.blk (Nat.le_refl _)))) ?_ ⟨hIV, hL, hD⟩).mono ?_
 ·rintro pre x W0 ⟨hi0, hl0, hk0⟩ hlen
  have hy := run_yield (P := P) (args := encs x) hl0 (by rw [hrc]; exact hps x)
  rw [hrc] at hy
  refine ⟨fn, _, assign, body, hy, roundIn_of_wpIn hfn (hassign _ x W0 _ ?_)⟩
  clear hy
  have hlt0 : d + 1 < W0.heap.size := (Array.getElem?_eq_some_iff.1 hl0).1
  have hi : I pre (W0.alloc (ob x)) := hI.alloc _ hi0
  have hnewB : (W0.alloc (ob x)).heap[W0.heap.size]? = some (ob x) := World.alloc_heap_new _ _
  have hl : (W0.alloc (ob x)).heap[d + 1]? = some (.loop (rc .ready none)) := (Below.heap_alloc W0 _ _ hlt0).trans hl0
  have hk : (W0.alloc (ob x)).heap[d]? = some (.deferred (some [])) := (Below.heap_alloc W0 _ _ (by omega)).trans hk0
  have hKW : Kp W0 (W0.alloc (ob x)) := hKa _ _
  obtain ⟨g, hg⟩ : ∃ g, W0.heap.size = g := ⟨_, rfl⟩
  obtain ⟨W, hW⟩ : ∃ W, W0.alloc (ob x) = W := ⟨_, rfl⟩
  rw [hg] at hnewB hlt0 ⊢
  rw [hW] at hi hl hk hKW hnewB ⊢
  clear hW
  have hlt : d + 1 < W.heap.size := (Array.getElem?_eq_some_iff.1 hl).1
  refine ⟨_, run_beginRound hl (by rw [hrc]), ?_⟩
  obtain ⟨b, hb⟩ : ∃ b : Obj, .loop { rc .ready none with state := .busy } = b := ⟨_, rfl⟩
  have hbc : b.isCells = false := by rw [← hb]; rfl
  have hl2 : (W.putObj (d + 1) b).heap[d + 1]? = some b := World.putObj_heap_same hlt
  have hk2 : (W.putObj (d + 1) b).heap[d]? = some (.deferred (some [])) := (World.putObj_heap_other (by omega)).trans hk
  rw [hb]
  have hkp : Kp W (W.putObj (d + 1) b) := hKb _ _ _ _ (by omega) hl rfl
  have hend : ∀ (jump : Option Code) (W3 : World), KeepsFrom d (W.putObj (d + 1) b) W3 →
    ∃ l3 : Loop, W3.heap[d + 1]? = some (.loop l3) ∧ (Instr.endRound (d + 1) jump).run P W3 = .ok (.bool jump.isNone) (W3.putObj (d + 1) (.loop (rc (if jump.isNone then .ready else .done) jump))) ∧
    (W3.putObj (d + 1) (.loop (rc (if jump.isNone then .ready else .done) jump))).heap[d + 1]? = some (.loop (rc (if jump.isNone then .ready else .done) jump)) ∧
    (W3.putObj (d + 1) (.loop (rc (if jump.isNone then .ready else .done) jump))).heap[d]? = some (.deferred (some [])) := fun jump W3 h3 => by
   have hl3 := h3.same _ _ (by omega) hl2 hbc
   rw [← hb] at hl3
   have hr := run_endRound (P := P) jump hl3
   rw [hrc] at hr ⊢
   exact ⟨_, hl3, hr, World.putObj_heap_same (Array.getElem?_eq_some_iff.1 hl3).1, (World.putObj_heap_other (by omega)).trans (h3.same _ _ (Nat.le_refl _) hk2 rfl)⟩
  refine wpIn_mono (hbody _ pre x _ g ((World.putObj_heap_other (by omega)).trans hnewB) (by omega) (by omega) ⟨_, by rw [hb]; exact hl2⟩ (hI.putObj _ hi (by omega) hl rfl) hlen) ?_
  rintro e a3 W3 hp
  cases e with
  | normal =>
   obtain ⟨q1, q2, q3⟩ := hp
   obtain ⟨l3, e0, e1, e2, e3⟩ := hend none W3 q1
   exact ⟨_, _, e1, .inl ⟨rfl, ⟨hI.putObj _ q3 (by omega) e0 rfl, e2, e3⟩, hKt (hKt (hKt hKW hkp) q2) (hKb _ _ _ _ (by omega) e0 rfl)⟩⟩
  | ret =>
   obtain ⟨q1, q2, q3⟩ := hp
   obtain ⟨l3, e0, e1, e2, e3⟩ := hend (some .ret) W3 q1
   exact ⟨_, _, e1, .inr ⟨rfl, ⟨hIx.putObj _ q3 (by omega) e0 rfl, e2, e3⟩, hKt (hKt (hKt hKW hkp) q2) (hKb _ _ _ _ (by omega) e0 rfl)⟩⟩
  | exit id => exact hp.elim
  | goto t => exact hp.elim
  | panic ch => exact hp.elim
  | outgrown => exact hp.elim
 ·rintro e W2 ⟨⟨v, rfl⟩, (⟨xs, hS, hi, hl, hk⟩ | ⟨pre, hSp, hi, hl, hk⟩)⟩
  ·have hr := run_endLoop (P := P) hl (by rw [hrc]; simp)
   rw [hrc] at hr
   exact ⟨none, _, hr, hdone _ xs _ (Nat.le_refl _) hS (hI.putObj _ hi (by omega) hl rfl) ((World.putObj_heap_other (by omega)).trans hk)⟩
  ·have hr := run_endLoop (P := P) hl (by rw [hrc]; simp)
   rw [hrc] at hr
   exact ⟨some .ret, _, hr, hstop _ pre _ (Nat.le_refl _) hSp (hIx.putObj _ hi (by omega) hl rfl) ((World.putObj_heap_other (by omega)).trans hk)⟩
end
end
section
open Go.RowKit Go.Shelf
attribute [local go_sem] Oper.semAt_some
theorem refused0 (pd ps pm : Nat) (D : Dk) (n : Nat) (w : World) (h : IsD w pd ps pm D) (hl : 1 ≤ D.sec.length) (hn : n ≤ 4096) :
  Calls Tryz.prog 108 #[.pointer (some ⟨pd, 0, none⟩), .int .i64 0, .int .i64 0, .int .i64 (n : Int)] w fun e w' => e = .returned (.int .i64 0) ∧ w = w' := by
 have HL := Lh (Len_ok pd ps pm D w h)
 have hlz : ((D.sec.length : Int) == 0) = false := beq_eq_false_iff_ne.2 (by omega)
 have e1 : ¬ ((4096 : Int) < (n : Int)) := by omega
 have e2 : ¬ ((4096 : Int) - (n : Int) < 0) := by omega
 have e3 : ¬ ((n : Int) < 0) := by omega
 clear h hl
 go_enter Tryz.func108, Tryz.ntmps108
 go_wp2_with fail
 refine HL.out.mono ?_
 rintro e w' ⟨rfl, rfl⟩
 go_wp2
 go_ret
 exact ⟨rfl, rfl⟩
theorem res_slw {tmps : Array Value} {W : World} {g : Nat} {v : Value} {fr : Nat × Nat} {t : TypeId} (hp : tmps.getD 8 undef = .pointer (some ⟨g, 0, none⟩)) (hg : W.heap[g]? = some (.cells #[v] t fr)) (hv : v.oneCell' = true) : (results Tryz.f43 tmps).run Tryz.prog W = .ok v W := by
 have hp' : tmps[8]?.getD undef = .pointer (some ⟨g, 0, none⟩) := by simpa using hp
 have k0 := blk_cell hg 0 (v := v) rfl
 have hu := Tryz.underlying37
 simp [results, Tryz.results43, hp', asAddr, go_sem, hu, k0]
theorem al6 (w : World) (a b c d e f : Obj) : ((((((w.alloc a).alloc b).alloc c).alloc d).alloc e).alloc f).heap[w.heap.size]? = some a ∧ ((((((w.alloc a).alloc b).alloc c).alloc d).alloc e).alloc f).heap[w.heap.size + 2]? = some c ∧ ((((((w.alloc a).alloc b).alloc c).alloc d).alloc e).alloc f).heap[w.heap.size + 3]? = some d ∧ ((((((w.alloc a).alloc b).alloc c).alloc d).alloc e).alloc f).heap[w.heap.size + 4]? = some e ∧ ((((((w.alloc a).alloc b).alloc c).alloc d).alloc e).alloc f).heap[w.heap.size + 5]? = some f := by
 have k : ∀ (u : World) (o : Obj) (i : Nat) (x : Obj), u.heap[i]? = some x → (u.alloc o).heap[i]? = some x := fun u o i x h => (Below.heap_alloc u o _ (Array.getElem?_eq_some_iff.1 h).1).trans h
 have z : ∀ (u : World) (o : Obj) (m : Nat), u.heap.size = m → (u.alloc o).heap[m]? = some o := fun u o m h => by rw [← h]; exact World.alloc_heap_new u o
 refine ⟨k _ _ _ _ (k _ _ _ _ (k _ _ _ _ (k _ _ _ _ (k _ _ _ _ (z _ _ _ rfl))))), k _ _ _ _ (k _ _ _ _ (k _ _ _ _ (z _ _ _ (by simp)))), k _ _ _ _ (k _ _ _ _ (z _ _ _ (by simp))), k _ _ _ _ (z _ _ _ (by simp)), z _ _ _ (by simp)⟩
theorem slW_small (pd ps pm : Nat) (D : Dk) (A : Option Addr) (n c : Nat) (w : World) (h : IsD w pd ps pm D) (hup : D.up = true) (hlen : D.sec.length = 1) (hn1 : 1 ≤ n) (hn2 : n ≤ 4096) :
  Calls Tryz.prog 43 #[.pointer (some ⟨pd, 0, none⟩), .int .i64 0, .int .i64 0, .slice A n c] w fun e w' => e = .returned (.int .i64 61) ∧ Chg Non w w' := by
 have HRf := Lh (fun W hg => refused0 pd ps pm D n W (h.non hg) (by omega) hn2)
 have HUp := Lh (fun W hg => Up_ok pd ps pm D W (h.non hg))
 rw [hup] at HUp
 have HRd := Lh (fun (k : Nat) W hg => Read_no_sector pd ps pm D ((3 + 0 * 64 + k / 64 : Nat) : Int) W (h.non hg) hup (by omega))
 have hltD := h.lt
 clear h
 refine (callsIn_wide (n := 3)).1 ?_
 have hro : Fence.wide.round = none := rfl
 refine callsIn_of_wp_marks Tryz.func43 rfl trivial ?_ hro
 simp only [Tryz.ntmps43, List.size_toArray, List.length_cons, List.length_nil, Nat.reduceAdd, Nat.reduceSub, Array.replicate_succ, Array.replicate_zero, List.push_toArray, List.append_toArray, List.nil_append, List.cons_append]
 refine wpIn_wide.2 ?_
 go_wp2_with fail
 refine (HRf.out _ ((((Chg.refl Non w).alloc _).alloc _).alloc _)).mono ?_
 rintro e u ⟨rfl, rfl⟩
 go_wp2_with fail
 refine (HUp.out _ ((((Chg.refl Non w).alloc _).alloc _).alloc _)).mono ?_
 rintro e u ⟨rfl, rfl⟩
 go_wp2_with fail
 refine (spieces_ok 0 0 n _).mono ?_
 rintro e u ⟨rfl, rfl⟩
 go_wp2_with fail
 obtain ⟨s, hs⟩ : ∃ s, w.heap.size = s := ⟨_, rfl⟩
 have hgV : Chg Non w ((((((w.alloc (.cells #[.pointer (some ⟨pd, 0, none⟩)] 36)).alloc (.cells #[.slice A n c] 32)).alloc (.cells #[.int .i64 0] 37)).alloc (.cells #[.int .i64 0] 3)).alloc (.cells #[.int .i64 0] 3)).alloc (.cells #[.int .i64 (n : Int)] 3)) := ((((((Chg.refl Non w).alloc _).alloc _).alloc _).alloc _).alloc _).alloc _
 have q0 := (al6 w (.cells #[.pointer (some ⟨pd, 0, none⟩)] 36) (.cells #[.slice A n c] 32) (.cells #[.int .i64 0] 37) (.cells #[.int .i64 0] 3) (.cells #[.int .i64 0] 3) (.cells #[.int .i64 (n : Int)] 3)).1
 have q2 := (al6 w (.cells #[.pointer (some ⟨pd, 0, none⟩)] 36) (.cells #[.slice A n c] 32) (.cells #[.int .i64 0] 37) (.cells #[.int .i64 0] 3) (.cells #[.int .i64 0] 3) (.cells #[.int .i64 (n : Int)] 3)).2.1
 have q3 := (al6 w (.cells #[.pointer (some ⟨pd, 0, none⟩)] 36) (.cells #[.slice A n c] 32) (.cells #[.int .i64 0] 37) (.cells #[.int .i64 0] 3) (.cells #[.int .i64 0] 3) (.cells #[.int .i64 (n : Int)] 3)).2.2.1
 have q4 := (al6 w (.cells #[.pointer (some ⟨pd, 0, none⟩)] 36) (.cells #[.slice A n c] 32) (.cells #[.int .i64 0] 37) (.cells #[.int .i64 0] 3) (.cells #[.int .i64 0] 3) (.cells #[.int .i64 (n : Int)] 3)).2.2.2.1
 have q5 := (al6 w (.cells #[.pointer (some ⟨pd, 0, none⟩)] 36) (.cells #[.slice A n c] 32) (.cells #[.int .i64 0] 37) (.cells #[.int .i64 0] 3) (.cells #[.int .i64 0] 3) (.cells #[.int .i64 (n : Int)] 3)).2.2.2.2
 have hsz : ((((((w.alloc (.cells #[.pointer (some ⟨pd, 0, none⟩)] 36)).alloc (.cells #[.slice A n c] 32)).alloc (.cells #[.int .i64 0] 37)).alloc (.cells #[.int .i64 0] 3)).alloc (.cells #[.int .i64 0] 3)).alloc (.cells #[.int .i64 (n : Int)] 3)).heap.size = s + 6 := by rw [← hs]; simp
 obtain ⟨V, hV⟩ : ∃ V, ((((((w.alloc (.cells #[.pointer (some ⟨pd, 0, none⟩)] 36)).alloc (.cells #[.slice A n c] 32)).alloc (.cells #[.int .i64 0] 37)).alloc (.cells #[.int .i64 0] 3)).alloc (.cells #[.int .i64 0] 3)).alloc (.cells #[.int .i64 (n : Int)] 3)) = V := ⟨_, rfl⟩
 rw [hs] at q0 q2 q3 q4 q5
 rw [hV] at q0 q2 q3 q4 q5 hgV hsz ⊢
 rw [hs]
 clear hV
 have HS := Lh hs
 have hss : SeqX Fence.wide 2 Tryz.prog 183 #[.pointer (some ⟨s + 1 + 1 + 1 + 1, 0, none⟩), .pointer (some ⟨s + 1 + 1 + 1 + 1 + 1, 0, none⟩), .pointer (some ⟨s + 1 + 1 + 1, 0, none⟩)] (spE 0 (0 + n)) (K2 (s + 4) (s + 3)) (fun r => r = s + 4) (fun xs => Sps 0 (0 + n) xs ∧ 0 + n ≤ spos 0 (0 + n) xs.length) (fun _ => True) (0 + n + 1) V := by
  intro l J Jx W hW hJ hJx hY h0
  have hg : Chg Non V W := Chg.of_below hW (Nat.le_refl _)
  rw [hsz] at hJ hJx
  refine (spc1 2 (by omega) 0 0 n (s + 4) (s + 5) (s + 3) (by omega) (by omega) (by omega) l J Jx (s + 6) (by omega) W hJ hJx hY (blk_keep q4 hg (fun e => e)) (blk_keep q5 hg (fun e => e)) (blk_keep q3 hg (fun e => e)) h0).mono ?_
  rintro e W' ⟨h1, h2 | ⟨pre, _, h2⟩⟩
  ·exact ⟨h1, .inl h2⟩
  ·exact ⟨h1, .inr ⟨pre, trivial, h2⟩⟩
 clear q3 q4 q5
 refine (wpIn_wide (n := 3)).1 ?_
 refine wpIn_rangeA hro (by omega) (gf := 183) (lb := #[.pointer (some ⟨s + 1 + 1 + 1 + 1, 0, none⟩), .pointer (some ⟨s + 1 + 1 + 1 + 1 + 1, 0, none⟩), .pointer (some ⟨s + 1 + 1 + 1, 0, none⟩)]) rfl trivial (enters_of Tryz.func183 (by kernel_rfl) rfl)
  hss K2.trans (fun W l o o' _ h1 h2 => K2.put W l o o' h1 h2) (fun W o => K2.of_chg ((Chg.refl Non W).alloc o) (fun e => e) (fun e => e)) (fun _ => rfl)
  (fun p => .cells #[.int .i64 (3 + 0 * 64 + p / 64 : Nat), .int .i64 (p % 64 : Nat), .int .i64 (min 64 (p % 64 + (0 + n) - p) : Nat)] 176) (fun _ => rfl)
  (fun pre W => pre = [] ∧ Chg Non w W ∧ W.heap[s]? = some (.cells #[.pointer (some ⟨pd, 0, none⟩)] 36 (0, 0)) ∧ W.heap[s + 2]? = some (.cells #[.int .i64 0] 37 (0, 0)))
  (fun pre W => Chg Non w W ∧ W.heap[s + 2]? = some (.cells #[.int .i64 61] 37 (0, 0)))
  ?i1 ?i2 ⟨rfl, hgV, q0, q2⟩
  (fun p g => { tmps := #[.pointer (some ⟨pd, 0, none⟩), .int .i64 0, .int .i64 0, .slice A n c, .pointer (some ⟨s, 0, none⟩), undef, undef, .pointer (some ⟨s + 1, 0, none⟩), .pointer (some ⟨s + 1 + 1, 0, none⟩), .int .i64 0, .pointer (some ⟨g, 0, none⟩), undef, undef, .pointer (some ⟨pd, 0, none⟩), .int .i64 0, .int .i64 0, .slice A n c, .int .i64 (n : Int), .int .i64 0, .int .i64 0, .bool false, undef, .pointer (some ⟨pd, 0, none⟩), .bool true, .bool false, .int .i64 0, .int .i64 0, .slice A n c, .int .i64 (n : Int), .func (.func 183) #[] #[.pointer (some ⟨s + 1 + 1 + 1 + 1, 0, none⟩), .pointer (some ⟨s + 1 + 1 + 1 + 1 + 1, 0, none⟩), .pointer (some ⟨s + 1 + 1 + 1, 0, none⟩)], .agg #[.int .i64 (3 + 0 * 64 + p / 64 : Nat), .int .i64 (p % 64 : Nat), .int .i64 (min 64 (p % 64 + (0 + n) - p) : Nat)], undef, undef, undef, undef, undef, undef, undef, undef, undef, undef, undef, undef, undef, undef, undef, undef, undef, undef, undef, undef, undef, undef, undef, undef, undef, undef, undef], defers := [] })
  ?assign ?body ?done ?stop
 case i1 =>
  rintro pre W W' row ⟨h1, h2, h3, h4⟩ hg hr
  rw [hsz] at hr
  have hr : RowY (s + 4) (s + 6) W row := hr
  exact ⟨h1, hr.chg hg h2 (by omega) (by omega), blk_keep h3 (gb_chg hg) (hr.not h3 (by omega)), blk_keep h4 (gb_chg hg) (hr.not h4 (by omega))⟩
 case i2 =>
  rintro pre W W' row ⟨h2, h4⟩ hg hr
  rw [hsz] at hr
  have hr : RowY (s + 4) (s + 6) W row := hr
  exact ⟨hr.chg hg h2 (by omega) (by omega), blk_keep h4 (gb_chg hg) (hr.not h4 (by omega))⟩
 case assign =>
  rintro l p W K hK
  have H := Lh hK
  clear hK
  dsimp only [spE] at H ⊢
  obtain ⟨a, ha⟩ : ∃ a, ((3 + 0 * 64 + p / 64 : Nat) : Int) = a := ⟨_, rfl⟩
  obtain ⟨b, hb⟩ : ∃ b, ((p % 64 : Nat) : Int) = b := ⟨_, rfl⟩
  obtain ⟨d, hd⟩ : ∃ d, ((min 64 (p % 64 + (0 + n) - p) : Nat) : Int) = d := ⟨_, rfl⟩
  rw [ha, hb, hd] at H ⊢
  gi_wp2
  exact H.out
 case body =>
  rintro l pre k W g hgb hgs hl ⟨r, hlr⟩ ⟨rfl, hgW, hb0, hb2⟩ hlt2
  have HRk := Lh (HRd.out k W hgW)
  obtain ⟨i, hi⟩ : ∃ i, ((3 + 0 * 64 + k / 64 : Nat) : Int) = i := ⟨_, rfl⟩
  obtain ⟨b, hb⟩ : ∃ b, ((k % 64 : Nat) : Int) = b := ⟨_, rfl⟩
  obtain ⟨d, hd⟩ : ∃ d, ((min 64 (k % 64 + (0 + n) - k) : Nat) : Int) = d := ⟨_, rfl⟩
  dsimp only
  rw [hi, hb, hd] at hgb ⊢
  rw [hi] at HRk
  clear hi hb hd hss HRd HRf HUp
  have k0 := blk_cell hb0 0 (v := .pointer (some ⟨pd, 0, none⟩)) rfl
  have kg := blk_cell hgb 0 (v := .int .i64 i) rfl
  have k2 := blk_cell hb2 0 (v := .int .i64 0) rfl
  have f2 := blk_free hb2 0
  have HB2 := Lh hb2
  have HGW := Lh hgW
  clear hgb hb0 hb2 hgW hlr
  gi_wp2_with fail
  refine ⟨trivial, (CallsIn.inRound l (callsIn_wide.2 HRk.out)).mono ?_⟩
  rintro e u ⟨rfl, rfl⟩
  gi_wp2
  have hg2 : Chg (fun x => x = s + 2) W (W.setCell ⟨s + 2, 0, none⟩ (.int .i64 61)) := chg_set W (s + 2) 0 _
  exact ⟨keepsFrom_lt hg2 (fun x e => by omega), K2.of_chg hg2 (by omega) (by omega), HGW.out.then_new hg2 (fun x e => by omega), blk_set 0 (.int .i64 61) HB2.out⟩
 case done =>
  rintro Dd zs W hDd ⟨_, hle⟩ ⟨rfl, _⟩ hK
  simp [spos] at hle
  omega
 case stop =>
  rintro Dd pre W hDd _ ⟨hgW, hb2⟩ hK
  have HB2 := Lh hb2
  have HGW := Lh hgW
  have HKK := Lh hK
  have HDd := Lh hDd
  clear hss hb2 hgW hK hDd
  gi_wp2_with fail
  refine ⟨by simp, .inl ⟨_, _, rfl, run_takeDeferred HKK.out, ?_⟩⟩
  have hr : RowY (s + 4) (s + 6) W (some Dd) := fun r e => by injection e with e; subst e; exact .inr ⟨by have := HDd.out; omega, _, HKK.out, rfl⟩
  have hg3 := grownBy_putObj' W Dd (.deferred none)
  exact ⟨_, res_slw rfl (blk_keep HB2.out (gb_chg hg3) (hr.not HB2.out (by omega))) rfl, rfl, hr.chg hg3 HGW.out (by omega) (by omega)⟩
end
end Go.Proofs.YtajkajgifigmbaaGreat
