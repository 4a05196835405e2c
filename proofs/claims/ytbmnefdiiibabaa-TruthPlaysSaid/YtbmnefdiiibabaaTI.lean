import Derived.Test.YtbmnefdiiibabaaTD
import Derived.Deep.RegionHeld3
import Derived.Deep.AppendLies
import Derived.Deep.RegionLaw
namespace Go.Proofs.Ytbmnefdiiibabaa
set_option linter.unusedVariables false
set_option linter.unusedSimpArgs false
open Go.RowKit Go.Maps Go.Sort Go.Shelf Go.Proofs.YtbmnefdiiibabaaW.PrintWords PTruthPlays

/-! ### what a call turns: the blocks of S, and what is new -/
structure Stp (S : Nat → Prop) (w w' : World) : Prop where
  os : w'.os = w.os
  tape : w'.tape = w.tape
  output : w'.output = w.output
  size : w.heap.size ≤ w'.heap.size
  block : ∀ k, k < w.heap.size → ¬ S k → w'.heap[k]? = w.heap[k]?
theorem Stp.refl (S : Nat → Prop) (w : World) : Stp S w w := ⟨rfl, rfl, rfl, Nat.le_refl _, fun _ _ _ => rfl⟩
theorem Stp.mono {S S' : Nat → Prop} {w w' : World} (h : Stp S w w') (hs : ∀ k, k < w.heap.size → S k → S' k) : Stp S' w w' := ⟨h.os, h.tape, h.output, h.size, fun k hk hn => h.block k hk (fun hS => hn (hs k hk hS))⟩
theorem Stp.trans {S S' : Nat → Prop} {a b c : World} (h : Stp S a b) (k : Stp S' b c) (hs : ∀ k, k < a.heap.size → S' k → S k) : Stp S a c :=
  ⟨k.os.trans h.os, k.tape.trans h.tape, k.output.trans h.output, Nat.le_trans h.size k.size, fun i hi hn => (k.block i (Nat.lt_of_lt_of_le hi h.size) (fun hS => hn (hs i hi hS))).trans (h.block i hi hn)⟩
theorem Stp.of_below {S : Nat → Prop} {w w' : World} (h : Below w.heap.size w w') : Stp S w w' := ⟨h.os, h.tape, h.output, h.size, fun k hk _ => h.block k hk⟩
theorem Stp.of_grown {w w' : World} {row : Option Nat} (h : w.grownBy w' row) : Stp (fun k => row = some k) w w' := ⟨h.os, h.tape, h.output, h.size, fun k hk hn => h.block k hk (fun e => hn e.symm)⟩
theorem Stp.grown1 {w w' : World} {M : Nat} (h : w.grownBy w' (some M)) : Stp (· = M) w w' := ⟨h.os, h.tape, h.output, h.size, fun k hk hn => h.block k hk (fun e => hn (by injection e))⟩
theorem Stp.alloc {S : Nat → Prop} {a w : World} (h : Stp S a w) (o : Obj) : Stp S a (w.alloc o) := h.trans (S' := fun _ => False) (Stp.of_below ((Below.refl _ w).alloc (Nat.le_refl _) o)) (fun _ _ hf => hf.elim)
theorem Stp.drew {S : Nat → Prop} {a w : World} (h : Stp S a w) : Stp S a w.drew := ⟨h.os, h.tape, h.output, h.size, h.block⟩
theorem Stp.drewN {S : Nat → Prop} {a w : World} (h : Stp S a w) (n : Nat) : Stp S a (w.drewN n) := ⟨h.os, h.tape, h.output, h.size, h.block⟩
theorem Stp.below {S : Nat → Prop} {a w w' : World} (h : Stp S a w) (k : Below w.heap.size w w') : Stp S a w' := h.trans (S' := fun _ => False) (Stp.of_below k) (fun _ _ hf => hf.elim)
theorem Stp.setCell {S : Nat → Prop} {a w : World} (h : Stp S a w) {p : Addr} (hp : S p.block ∨ a.heap.size ≤ p.block) (u : Value) : Stp S a (w.setCell p u) :=
  ⟨h.os, h.tape, h.output, by simpa [World.setCell] using h.size, fun i hi hn => (Below.heap_setCell w p u i (by
    rintro rfl
    rcases hp with hp | hp
    · exact hn hp
    · omega)).trans (h.block i hi hn)⟩
theorem Stp.to_below {S : Nat → Prop} {a w : World} (h : Stp S a w) {B : Nat} (hB : B ≤ a.heap.size) (hS : ∀ k, S k → B ≤ k) : Below B a w := ⟨h.os, h.tape, h.output, h.size, fun k hk => h.block k (Nat.lt_of_lt_of_le hk hB) (fun hs => by have := hS k hs; omega)⟩
theorem Stp.keep {S : Nat → Prop} {a w : World} (h : Stp S a w) {g : Nat} {o : Obj} (hb : a.heap[g]? = some o) (hn : ¬ S g) : w.heap[g]? = some o := (h.block g (Array.getElem?_eq_some_iff.1 hb).1 hn).trans hb
theorem Stp.mapB {S : Nat → Prop} {w w1 : World} (h : Stp S w w1) {ok : Nat → Prop} {M : Nat} {b : List Ent} (hm : MapB w ok M b) (hM : ¬ S M) (hok : ∀ k, ok k → ¬ S k) : MapB w1 ok M b := by
  have hlt : M < w.heap.size := by
    obtain ⟨l, hown, _⟩ := hm.ex
    exact hown.lt
  exact hm.step (h.block M hlt hM) (fun k hk hl => h.block k hl (hok k hk))

theorem mapTurned_at {w w1 : World} {M : Nat} (h : w.mapTurned w1 M) : Stp (· = M) w w1 := Stp.grown1 h.grown

/-- the look-up with ok -/
theorem MapB.look_ok {w : World} {ok : Nat → Prop} {M : Nat} {b : List Ent} (h : MapB w ok M b) {k : Int} (hk : i64r k) :
    ∃ v, HeldV w ok (bget b k) v ∧ ∀ W : World, W.heap[M]? = w.heap[M]? → (Instr.lookup 47 (.map (some M)) (.int .i64 k) true).run Try.prog W = .ok (.tuple #[v, .bool (bfind b k).isSome]) W := by
  obtain ⟨v, hv, hrun⟩ := h.look hk
  obtain ⟨l, hown, hF⟩ := h.ex
  refine ⟨v, hv, fun W hW => ?_⟩
  have hW' : W.ownsMap Try.prog 3 heldR M b.length (.map l) := by
    obtain ⟨es, clock, hb, r⟩ := hown
    exact ⟨es, clock, hW.trans hb, r⟩
  obtain ⟨v2, ps, hr2, hR⟩ := hW'.look_ok K47 Try.underlying47 (zero57 W) (zd := .held (.agg #[.bool false, .slice none 0 0])) (zp := []) rfl (key64 hk)
  obtain ⟨v3, ps3, hr3, hR3⟩ := hW'.lookup K47 Try.underlying47 (zero57 W) (zd := .held (.agg #[.bool false, .slice none 0 0])) (zp := []) rfl (key64 hk)
  have e3 : v3 = v := by
    rw [hrun W hW] at hr3
    exact (Result.ok.inj hr3).1.symm
  have e2 : v2 = v3 := by
    simp only [heldR, Option.some.injEq, Prod.mk.injEq] at hR hR3
    have := hR.1.trans hR3.1.symm
    injection this
  have hhas : Maps.has (DataW.map l) (.int .i64 k) = (bfind b k).isSome := by
    rw [Maps.has_eq, ← List.isSome_find?]
    rcases find_rows hF k with ⟨h1, h2⟩ | ⟨y, x, h1, h2, _⟩
    · rw [h1, h2]; rfl
    · rw [h1, h2]; rfl
  rw [hr2, e2, e3, hhas]

theorem MapB.del {w w1 : World} {ok : Nat → Prop} {M : Nat} {b : List Ent} (hM : ¬ ok M) {k : Int} {l : List (Lit × DataW Value)} {n : Nat}
    (h1 : w1.ownsMap Try.prog 3 heldR M n ((DataW.map l).del (.int .i64 k))) (hF : F2 (BRow w ok) l b) (hs : Stp (· = M) w w1) : MapB w1 ok M (bdel b k) := by
  have hF2 := rows_imp (fun _ _ hx => hx.step (w1 := w1) (fun j hj hlt => hs.block j hlt (fun e => hM (e ▸ hj)))) (forall2_filter hF k)
  exact ⟨_, by rw [← forall2_len hF2]; exact owns_len h1, hF2⟩

set_option maxRecDepth 100000 in
set_option maxHeartbeats 400000 in
theorem drop_any (B M : Nat) (b : List Ent) (w : World) (ok : Nat → Prop) (k : Int) (hk : i64r k) (hB : w.heap[B]? = some (.cells #[.map (some M)] 49 (0, 0))) (hMB : MapB w ok M b) (hM : ¬ ok M) :
    Calls Try.prog 20 #[.pointer (some ⟨B, 0, none⟩), .int .i64 k] w fun e w' => e = .returned (.bool (bfind b k).isSome) ∧ MapB w' ok M (bdel b k) ∧ Stp (· = M) w w' := by
  have hc : w.cell? ⟨B, 0, none⟩ = some (.map (some M)) := by rw [cell_blk hB]; rfl
  have hBl : B < w.heap.size := (Array.getElem?_eq_some_iff.1 hB).1
  obtain ⟨v, hv, hrun⟩ := hMB.look_ok hk
  obtain ⟨A, c, rfl, hcl, hFF⟩ := hv
  have hl := hrun w rfl
  obtain ⟨l, hown, hF⟩ := hMB.ex
  have hkey := key64 hk
  go_enter Try.func20, Try.ntmps20
  go_wp2_with (first
    | (go_at_call 28; refine (none_any B M _ hB).mono ?_; rintro e w' ⟨rfl, rfl⟩)
    | (at_delete; refine wpList_delete_own _ rfl _ _ 47 3 rfl 57 K47 Try.underlying47 heldR M b.length (.map l) rfl (hown.alloc _) _ _ rfl hkey ?_; intro w1 hown1 hturn1))
  go_ret
  have hs : Stp (· = M) w w1 := ((Stp.refl _ w).alloc _).trans (mapTurned_at hturn1) (fun _ _ h => h)
  exact ⟨rfl, MapB.del hM hown1 hF hs, hs⟩

set_option maxRecDepth 100000 in
set_option maxHeartbeats 400000 in
theorem isplain_any (B M : Nat) (b : List Ent) (w : World) (ok : Nat → Prop) (k : Int) (hk : i64r k) (hB : w.heap[B]? = some (.cells #[.map (some M)] 49 (0, 0))) (hMB : MapB w ok M b) :
    Calls Try.prog 14 #[.pointer (some ⟨B, 0, none⟩), .int .i64 k] w fun e w' => e = .returned (.bool (bget b k).1) ∧ w = w' := by
  have hc : w.cell? ⟨B, 0, none⟩ = some (.map (some M)) := by rw [cell_blk hB]; rfl
  obtain ⟨v, hv, hrun⟩ := hMB.look hk
  obtain ⟨A, c, rfl, hcl, hFF⟩ := hv
  have hl := hrun w rfl
  have hf57 := field57_0
  go_enter Try.func14, Try.ntmps14
  go_wp2_with (go_at_call 28; refine (none_any B M _ hB).mono ?_; rintro e w' ⟨rfl, rfl⟩)
  go_ret
  exact ⟨rfl, rfl⟩
end Go.Proofs.Ytbmnefdiiibabaa

namespace Go.Proofs.Ytbmnefdiiibabaa
set_option linter.unusedVariables false
set_option linter.unusedSimpArgs false
open Go.RowKit Go.Maps Go.Sort Go.Shelf Go.Proofs.YtbmnefdiiibabaaW.PrintWords PTruthPlays

abbrev ki : Kd Int := Kd.int .i64
theorem C_len {α : Type} {d : Kd α} {w : World} {A : Option Addr} {n : Nat} {xs : List α} (h : d.C w A n xs) : xs.length = n := h.1
theorem C_max {α : Type} {d : Kd α} {w : World} {A : Option Addr} {n : Nat} {xs : List α} (h : d.C w A n xs) : n ≤ 9223372036854775807 := h.2.1
theorem spot_none {w : World} {a : Addr} {v : Value} (h : w.cell? a = some v) : a.spot = none := by
  unfold World.cell? at h
  split at h
  · split at h
    · cases h
    · rename_i hs; cases hsp : a.spot <;> simp_all
  · cases h
theorem C_addr {w : World} {A : Option Addr} {n : Nat} {xs : List Int} (h : ki.C w A n xs) (hn : 0 < n) :
    ∃ b o, A = some ⟨b, o, none⟩ ∧ b < w.heap.size ∧ ∀ j, j < xs.length → w.cell? ⟨b, o + j, none⟩ = some (.int .i64 (xs.getD j 0)) := by
  obtain ⟨ad, rfl, hc⟩ := h.2.2 hn
  have key : ∀ j, j < xs.length → w.cell? (ad.add j) = some (.int .i64 (xs.getD j 0)) := fun j hj => by
    obtain ⟨c, hc1, hK, hcell⟩ := hc j _ (List.getElem?_eq_getElem hj)
    have e : c = [.int .i64 xs[j]] := hK
    have := hcell 0 (.int .i64 xs[j]) (by rw [e]; rfl)
    have es : j * (Kd.int .i64).sz + 0 = j := Nat.mul_one j
    rw [es] at this
    rw [this, List.getD_eq_getElem?_getD, List.getElem?_eq_getElem hj]; rfl
  have hl := h.1
  have h0 := key 0 (by omega)
  have hs := spot_none h0
  obtain ⟨b, o, sp⟩ := ad
  simp only [Addr.add, if_true] at hs
  subst hs
  refine ⟨b, o, rfl, World.block_lt_of_cell? w _ h0, fun j hj => ?_⟩
  have := key j hj
  unfold Addr.add at this
  split at this
  · rename_i e; subst e; simpa using this
  · exact this

theorem equal_any (A1 A2 : Option Addr) (c1 c2 : Nat) (xs ys : List Int) (w : World) (h1 : ki.C w A1 xs.length xs) (h2 : ki.C w A2 ys.length ys) :
    Calls Try.prog 63 #[.slice A1 xs.length c1, .slice A2 ys.length c2] w fun e w' => e = .returned (.bool (xs == ys)) ∧ ∃ q, w' = w.drewN q := by
  by_cases hl : xs.length = ys.length
  · by_cases h0 : xs.length = 0
    · have e1 : xs = [] := List.eq_nil_of_length_eq_zero h0
      have e2 : ys = [] := List.eq_nil_of_length_eq_zero (by omega)
      subst e1; subst e2
      exact (Try.slices_Equal_int_empty A1 A2 c1 0 c2 w (by omega)).mono fun e w' ⟨he, hw⟩ => ⟨by rw [he]; rfl, 0, hw⟩
    · obtain ⟨b1, o1, rfl, _, k1⟩ := C_addr h1 (by omega)
      obtain ⟨b2, o2, rfl, _, k2⟩ := C_addr h2 (by omega)
      exact (Try.slices_Equal_int b1 o1 xs.length c1 b2 o2 ys.length c2 xs ys w (Nat.le_refl _) (Nat.le_refl _) (C_max h1) (C_max h2) k1 k2).mono fun e w' ⟨he, hw⟩ => ⟨by rw [he, List.take_length, List.take_length], hw⟩
  · refine (Try.slices_Equal_int_lens A1 A2 xs.length c1 ys.length c2 w hl).mono fun e w' ⟨he, hw⟩ => ⟨?_, 0, hw⟩
    rw [he]
    have : (xs == ys) = false := by
      rw [beq_eq_false_iff_ne]; intro e; exact hl (by rw [e])
    rw [this]

/-- the same justification -/
def jeq (x y : S33) : Bool := x.f0 == y.f0 && x.f1 == y.f1
theorem jeq_iff {x y : S33} : jeq x y = true ↔ x = y := by
  obtain ⟨a, b⟩ := x; obtain ⟨c, d⟩ := y
  simp [jeq]

set_option maxRecDepth 100000 in
set_option maxHeartbeats 400000 in
theorem same_any (x y : S33) (A1 A2 : Option Addr) (c1 c2 : Nat) (w : World) (h1 : ki.C w A1 x.f1.length x.f1) (h2 : ki.C w A2 y.f1.length y.f1) :
    Calls Try.prog 47 #[.agg #[.int .i64 x.f0, .slice A1 x.f1.length c1], .agg #[.int .i64 y.f0, .slice A2 y.f1.length c2]] w fun e w' => e = .returned (.bool (jeq x y)) ∧ Below w.heap.size w w' := by
  obtain ⟨r1, xs⟩ := x
  obtain ⟨r2, ys⟩ := y
  simp only at h1 h2 ⊢
  have k1 : ki.C ((w.alloc (.cells #[.int .i64 r1, .slice A1 xs.length c1] 33)).alloc (.cells #[.int .i64 r2, .slice A2 ys.length c2] 33)) A1 xs.length xs := Kd.C_below h1 (((Below.refl _ _).alloc (Nat.le_refl _) _).alloc (by simp) _)
  have k2 : ki.C ((w.alloc (.cells #[.int .i64 r1, .slice A1 xs.length c1] 33)).alloc (.cells #[.int .i64 r2, .slice A2 ys.length c2] 33)) A2 ys.length ys := Kd.C_below h2 (((Below.refl _ _).alloc (Nat.le_refl _) _).alloc (by simp) _)
  cases hr : (r1 == r2) with
  | true =>
    go_enter Try.func47, Try.ntmps47
    go_wp2_with (go_at_call 63; refine (equal_any A1 A2 c1 c2 xs ys _ k1 k2).mono ?_; rintro e w' ⟨rfl, q, rfl⟩)
    go_ret
    refine ⟨by simp [jeq, hr], ?_⟩
    exact pw_below_drewN (((Below.refl _ _).alloc (Nat.le_refl _) _).alloc (by simp) _) q
  | false =>
    go_enter Try.func47, Try.ntmps47
    go_wp2
    go_ret
    exact ⟨by simp [jeq, hr], ((Below.refl _ _).alloc (Nat.le_refl _) _).alloc (by simp) _⟩
end Go.Proofs.Ytbmnefdiiibabaa

namespace Go.Proofs.Ytbmnefdiiibabaa
set_option linter.unusedVariables false
set_option linter.unusedSimpArgs false
open Go.RowKit Go.Maps Go.Sort Go.Shelf Go.Proofs.YtbmnefdiiibabaaW.PrintWords PTruthPlays

theorem bcell {W w1 : World} (hb : Below W.heap.size W w1) : (∀ b o, b < W.heap.size → w1.cell? ⟨b, o, none⟩ = W.cell? ⟨b, o, none⟩) ∧ (∀ b o, b < W.heap.size → w1.frozen? ⟨b, o, none⟩ = W.frozen? ⟨b, o, none⟩) :=
  ⟨fun b o h => hb.cell (p := ⟨b, o, none⟩) h, fun b o h => hb.frozen (p := ⟨b, o, none⟩) h⟩

/-- a row of justifications: its cells -/
theorem J_addr {w : World} {A : Option Addr} {n : Nat} {l : List S33} (h : k33.C w A n l) (hn : 0 < n) :
    ∃ b o, A = some ⟨b, o, none⟩ ∧ b < w.heap.size ∧ ∀ j (hj : j < l.length), ∃ A1 c1, w.cell? ⟨b, o + j * 2, none⟩ = some (.int .i64 l[j].f0) ∧ w.cell? ⟨b, o + j * 2 + 1, none⟩ = some (.slice A1 l[j].f1.length c1) ∧ l[j].f1.length ≤ c1 ∧ ki.C w A1 l[j].f1.length l[j].f1 := by
  obtain ⟨ad, rfl, hc⟩ := h.2.2 hn
  have key : ∀ j (hj : j < l.length), ∃ A1 c1, w.cell? (ad.add (j * 2)) = some (.int .i64 l[j].f0) ∧ w.cell? (ad.add (j * 2 + 1)) = some (.slice A1 l[j].f1.length c1) ∧ l[j].f1.length ≤ c1 ∧ ki.C w A1 l[j].f1.length l[j].f1 := fun j hj => by
    obtain ⟨c, hc1, hK, hcell⟩ := hc j _ (List.getElem?_eq_getElem hj)
    obtain ⟨A1, c1, rfl, l1, g1⟩ := k33_open hK
    exact ⟨A1, c1, hcell 0 _ rfl, hcell 1 _ rfl, l1, g1⟩
  have hl := h.1
  obtain ⟨_, _, h0, _⟩ := key 0 (by omega)
  have hs := spot_none h0
  obtain ⟨b, o, sp⟩ := ad
  simp only [Nat.zero_mul, Addr.add, if_true] at hs
  subst hs
  refine ⟨b, o, rfl, World.block_lt_of_cell? w _ h0, fun j hj => ?_⟩
  obtain ⟨A1, c1, h1, h2, h3, h4⟩ := key j hj
  refine ⟨A1, c1, ?_, ?_, h3, h4⟩
  · rw [add_plain'] at h1; exact h1
  · rw [add_plain'] at h2; exact h2
where add_plain' {b o j : Nat} : (⟨b, o, none⟩ : Addr).add j = ⟨b, o + j, none⟩ := by unfold Addr.add; split <;> simp_all

def idxP {α : Type} (p : α → Bool) (l : List α) : Int := match l.findIdx? p with | some i => (i : Int) | none => -1
theorem idxP_hit {α : Type} {p : α → Bool} {l : List α} {k : Nat} (hk : k < l.length) (h : p l[k] = true) (hb : ∀ j (hj : j < k), p (l[j]'(by omega)) = false) : idxP p l = k := by
  unfold idxP
  have : l.findIdx? p = some k := by
    rw [List.findIdx?_eq_some_iff_getElem]
    exact ⟨hk, h, fun j hj => by rw [hb j hj]; simp⟩
  rw [this]
theorem idxP_none {α : Type} {p : α → Bool} {l : List α} (hb : ∀ j (hj : j < l.length), p l[j] = false) : idxP p l = -1 := by
  unfold idxP
  have : l.findIdx? p = none := by
    rw [List.findIdx?_eq_none_iff]
    intro x hx
    obtain ⟨j, hj, rfl⟩ := List.getElem_of_mem hx
    exact hb j hj
  rw [this]

/-- what a predicate on justifications, with what it has captured, does -/
def PredJ (g : Nat) (lb : Array Value) (p : S33 → Bool) (l : List S33) (w : World) : Prop :=
  ∀ W, Below w.heap.size w W → ∀ x ∈ l, ∀ A c, ki.C W A x.f1.length x.f1 → Calls Try.prog g (#[.agg #[.int .i64 x.f0, .slice A x.f1.length c]] ++ lb) W fun e W' => e = .returned (.bool (p x)) ∧ Below W.heap.size W W'

set_option maxRecDepth 100000 in
set_option maxHeartbeats 1000000 in
theorem indexJ_any (g : Nat) (cap : Value) (p : S33 → Bool) (eg : ∀ args w, (callFunc g args).run Try.prog w = .ok (.enter g args) w) (A : Option Addr) (c : Nat) (l : List S33) (w : World) (hl : k33.C w A l.length l) (hP : PredJ g #[cap] p l w) :
    Calls Try.prog 62 #[.slice A l.length c, .func (.func g) #[] #[cap]] w fun e w' => e = .returned (.int .i64 (idxP p l)) ∧ Below w.heap.size w w' := by
  have hmax := C_max hl
  have HL := Lib.hid hl
  have HP := Lib.hid hP
  clear hl hP
  go_enter Try.func62, Try.ntmps62
  go_wp2
  go_loopw [8] (fun i W => ∃ k : Nat, k ≤ l.length ∧ i = .int .i64 k ∧ (∀ j (hj : j < k) (hk : j < l.length), p l[j] = false) ∧ Below w.heap.size w W) (fun i _ => l.length - (intOf i).toNat)
  case atStart => exact ⟨0, Nat.zero_le _, rfl, fun j hj => by omega, Below.refl _ _⟩
  case round =>
    obtain ⟨k, hk, rfl, hno, hb⟩ := hrel
    by_cases hlt : k < l.length
    · obtain ⟨b, o, rfl, hbl, hcs⟩ := J_addr (Kd.C_below HL.out hb) (by omega)
      obtain ⟨A1, c1, e0, e1, l1, g1⟩ := hcs k hlt
      clear hcs
      have hmem : l[k] ∈ l := List.getElem_mem hlt
      cases hp : p l[k] with
      | true =>
        have Hp := Lib.hid hp
        clear hp
        go_wp2_with (refine (HP.out _ hb _ hmem A1 c1 g1).mono ?_; rintro e w' ⟨he, hb2⟩; rw [Hp.out] at he; subst he)
        go_ret
        exact ⟨by rw [idxP_hit hlt Hp.out (fun j hj => hno j hj (by omega))]; rfl, hb.trans (hb2.mono hb.size)⟩
      | false =>
        have Hp := Lib.hid hp
        clear hp
        go_wp2_with (refine (HP.out _ hb _ hmem A1 c1 g1).mono ?_; rintro e w' ⟨he, hb2⟩; rw [Hp.out] at he; subst he)
        go_roundw
        case rel =>
          refine ⟨k + 1, by omega, by go_num, fun j hj hjl => ?_, hb.trans (hb2.mono hb.size)⟩
          by_cases e : j = k
          · subst e; exact Hp.out
          · exact hno j (by omega) hjl
        case measure => simp [intOf]; omega
    · go_wp2
      go_ret
      exact ⟨by rw [idxP_none (fun j hj => hno j (by omega) hj)]; rfl, hb⟩
end Go.Proofs.Ytbmnefdiiibabaa

namespace Go.Proofs.Ytbmnefdiiibabaa
set_option linter.unusedVariables false
set_option linter.unusedSimpArgs false
open Go.RowKit Go.Maps Go.Sort Go.Shelf Go.Proofs.YtbmnefdiiibabaaW.PrintWords Go.Proofs.YtbmnefdiiibabaaW.PrintMore PTruthPlays

theorem PredJ.mono {g : Nat} {lb : Array Value} {p : S33 → Bool} {l : List S33} {w w1 : World} (h : PredJ g lb p l w) (hb : Below w.heap.size w w1) : PredJ g lb p l w1 :=
  fun W hW x hx A c hC => h W (hb.trans (hW.mono hb.size)) x hx A c hC

theorem idxP_any {α : Type} (p : α → Bool) (l : List α) : decide (0 ≤ idxP p l) = l.any p := by
  unfold idxP
  cases h : l.findIdx? p with
  | none =>
    rw [List.findIdx?_eq_none_iff] at h
    have : l.any p = false := by rw [List.any_eq_false]; exact fun x hx => by rw [h x hx]; simp
    rw [this]; rfl
  | some i =>
    rw [List.findIdx?_eq_some_iff_getElem] at h
    obtain ⟨hi, hp, _⟩ := h
    have : l.any p = true := List.any_eq_true.2 ⟨l[i], List.getElem_mem hi, hp⟩
    rw [this]; simp

set_option maxRecDepth 100000 in
set_option maxHeartbeats 400000 in
theorem containsJ_any (g : Nat) (cap : Value) (p : S33 → Bool) (eg : ∀ args w, (callFunc g args).run Try.prog w = .ok (.enter g args) w) (A : Option Addr) (c : Nat) (l : List S33) (w : World) (hl : k33.C w A l.length l) (hP : PredJ g #[cap] p l w) :
    Calls Try.prog 45 #[.slice A l.length c, .func (.func g) #[] #[cap]] w fun e w' => e = .returned (.bool (l.any p)) ∧ Below w.heap.size w w' := by
  have hc := indexJ_any g cap p eg A c l w hl hP
  have HC := Lib.hid hc
  have HN := Lib.hid (idxP_any p l)
  clear hc hl hP eg
  go_enter Try.func45, Try.ntmps45
  go_wp2_with (refine (HC.out).mono ?_; rintro e w' ⟨rfl, hb⟩)
  go_ret
  refine ⟨?_, hb⟩
  rw [← HN.out]
  rfl

theorem N_empty {α : Type} (d : Kd α) (e : Nat) (w : World) (base : Nat) (ok : Nat → Prop) (hb : base ≤ w.heap.size) (hok : ok w.heap.size) : Kd.N d e (w.alloc (.cells #[] e)) base ok (.slice (some ⟨w.heap.size, 0, none⟩) 0 0) [] := by
  refine ⟨fun k hk => ?_, [], rfl, ⟨fun k hk => hk.symm, [], ⟨by simp, .inr ⟨w.heap.size, 0, #[], rfl, hb, World.alloc_heap_new w _, Nat.le_refl _, by unfold maxLen; omega, by simp, by simp⟩⟩, Reps.none _ _⟩, fun j x c hx => by simp at hx⟩
  have : w.heap.size = k := by simpa [Value.ownBlock] using hk
  rw [← this]; exact hok

theorem info33 : (Try.prog.info? 33).map (fun i => (i.zero, i.size, i.bytes)) = some (some (.agg #[.int .i64 0, .slice none 0 0]), 2, 32) := by kernel_rfl
theorem info3 : (Try.prog.info? 3).map (fun i => (i.zero, i.size, i.bytes)) = some (some (.int .i64 0), 1, 8) := by kernel_rfl

set_option maxRecDepth 100000 in
set_option maxHeartbeats 1000000 in
theorem cloneJ_any (A : Option Addr) (c : Nat) (l : List S33) (w : World) (ok : Nat → Prop) (hF : Kd.F k33 w ok A l.length l) (hl : l.length ≤ 1000000) :
    Calls Try.prog 48 #[.slice A l.length c] w fun e w' => ∃ v, e = .returned v ∧ Kd.N k33 33 w' w.heap.size (fun k => ok k ∨ w.heap.size ≤ k) v l ∧ Below w.heap.size w w' := by
  have q39 : ∀ (w : World) (a : Option Addr) (n c n' c' : Nat), (binOp .eql 39 (.slice a n c) (.slice none n' c')).run Try.prog w = .ok (.bool a.isNone) w := fun w a n c n' c' => Lib.run_eql_slice_nil w _ _ a n c n' c' Try.underlying39
  cases A with
  | none =>
    have h0 : l.length = 0 := by
      rcases Nat.eq_zero_or_pos l.length with h | h
      · exact h
      · obtain ⟨ad, he, _⟩ := (Kd.F_now hF).2.2 h; cases he
    have e0 : l = [] := List.eq_nil_of_length_eq_zero h0
    subst e0
    clear hF
    go_enter Try.func48, Try.ntmps48
    go_wp2
    go_ret
    exact ⟨_, rfl, Kd.N_nil _ _ _ _ _, Below.refl _ _⟩
  | some ad =>
    have hF2 : Kd.F k33 (w.alloc (.cells #[] 33)) (fun k => ok k ∧ k < w.heap.size) (some ad) l.length l := Kd.F_alloc (Kd.F_bound hF) _
    have hN := N_empty k33 33 w w.heap.size (fun k => ok k ∨ w.heap.size ≤ k) (Nat.le_refl _) (.inr (Nat.le_refl _))
    have hB : Below w.heap.size w (w.alloc (.cells #[] 33)) := (Below.refl _ _).alloc (Nat.le_refl _) _
    have k1 : ∀ k, (ok k ∧ k < w.heap.size) → (ok k ∨ w.heap.size ≤ k) ∧ some k ≠ (Value.slice (some ⟨w.heap.size, 0, none⟩) 0 0).ownBlock := fun k hk => ⟨.inl hk.1, fun e => by simp [Value.ownBlock] at e; omega⟩
    have k2 : ∀ k, (w.alloc (.cells #[] 33)).heap.size ≤ k → (ok k ∨ w.heap.size ≤ k) := fun k hk => .inr (by simp at hk; omega)
    clear hF
    go_enter Try.func48, Try.ntmps48
    go_wp2_with (at_builtin; go_loud (refine Kd.N_append_rows k33 w.heap.size rfl _ _ 39 33 (.agg #[.int .i64 0, .slice none 0 0]) 32 rfl Try.underlying39 info33 rfl (by decide) (by decide) _ [] l (some ad) l.length c (fun k => ok k ∨ w.heap.size ≤ k) (fun k => ok k ∧ k < w.heap.size) rfl rfl hN hF2 k1 k2 hB (by simp) (by simp; omega) ?_); intro v1 w1 hN1 hB1 hg1 hat1)
    go_ret
    exact ⟨_, rfl, by simpa using hN1, hB1⟩

set_option maxRecDepth 100000 in
set_option maxHeartbeats 1000000 in
theorem cloneI_any (A : Option Addr) (c : Nat) (l : List Int) (w : World) (hC : ki.C w A l.length l) (hl : l.length ≤ 1000000) :
    Calls Try.prog 32 #[.slice A l.length c] w fun e w' => ∃ v, e = .returned v ∧ Kd.N ki 3 w' w.heap.size (fun k => w.heap.size ≤ k) v l ∧ Below w.heap.size w w' := by
  have q31 : ∀ (w : World) (a : Option Addr) (n c n' c' : Nat), (binOp .eql 31 (.slice a n c) (.slice none n' c')).run Try.prog w = .ok (.bool a.isNone) w := fun w a n c n' c' => Lib.run_eql_slice_nil w _ _ a n c n' c' Try.underlying31
  have hF := Kd.C_F (Kd.heap_int .i64) hC
  cases A with
  | none =>
    have h0 : l.length = 0 := by
      rcases Nat.eq_zero_or_pos l.length with h | h
      · exact h
      · obtain ⟨ad, he, _⟩ := hC.2.2 h; cases he
    have e0 : l = [] := List.eq_nil_of_length_eq_zero h0
    subst e0
    clear hF hC
    go_enter Try.func32, Try.ntmps32
    go_wp2
    go_ret
    exact ⟨_, rfl, Kd.N_nil _ _ _ _ _, Below.refl _ _⟩
  | some ad =>
    have hF2 : Kd.F ki (w.alloc (.cells #[] 3)) (fun k => k < w.heap.size) (some ad) l.length l := Kd.F_alloc hF _
    have hN := N_empty ki 3 w w.heap.size (fun k => w.heap.size ≤ k) (Nat.le_refl _) (Nat.le_refl _)
    have hB : Below w.heap.size w (w.alloc (.cells #[] 3)) := (Below.refl _ _).alloc (Nat.le_refl _) _
    have hN2 := Kd.N_mono hN (ok' := fun k => k < w.heap.size ∨ w.heap.size ≤ k) (fun k hk => .inr hk)
    have k1 : ∀ k, (k < w.heap.size) → (k < w.heap.size ∨ w.heap.size ≤ k) ∧ some k ≠ (Value.slice (some ⟨w.heap.size, 0, none⟩) 0 0).ownBlock := fun k hk => ⟨.inl hk, fun e => by simp [Value.ownBlock] at e; omega⟩
    have k2 : ∀ k, (w.alloc (.cells #[] 3)).heap.size ≤ k → (k < w.heap.size ∨ w.heap.size ≤ k) := fun k hk => .inr (by simp at hk; omega)
    clear hF hC hN
    go_enter Try.func32, Try.ntmps32
    go_wp2_with (at_builtin; refine Kd.N_append_rows ki w.heap.size rfl _ _ 31 3 (.int .i64 0) 8 rfl Try.underlying31 info3 rfl (by decide) (by decide) _ [] l (some ad) l.length c (fun k => k < w.heap.size ∨ w.heap.size ≤ k) (fun k => k < w.heap.size) rfl rfl hN2 hF2 k1 k2 hB (by simp) (by simp; omega) ?_; intro v1 w1 hN1 hB1 hg1 hat1)
    go_ret
    refine ⟨_, rfl, ?_, hB1⟩
    have h2 : Kd.N ki 3 w1 w.heap.size (fun k => k < w.heap.size ∨ w.heap.size ≤ k) v1 l := by simpa using hN1
    obtain ⟨h0, rows, hlr, hR, hf⟩ := h2
    exact ⟨fun k hk => Kd.R_base hR k hk, rows, hlr, hR, fun j x c hx hc W' _ => (Kd.FK_now (hf j x c hx hc) : ki.K w1 x c)⟩
end Go.Proofs.Ytbmnefdiiibabaa

namespace Go.Proofs.Ytbmnefdiiibabaa
set_option linter.unusedVariables false
set_option linter.unusedSimpArgs false
open Go.RowKit Go.Maps Go.Sort Go.Shelf Go.Proofs.YtbmnefdiiibabaaW.PrintWords Go.Proofs.YtbmnefdiiibabaaW.PrintMore PTruthPlays

theorem heap_alloc_lt (w : World) (o : Obj) {k : Nat} {x : Obj} (h : w.heap[k]? = some x) : (w.alloc o).heap[k]? = some x := (Below.heap_alloc w o k (Array.getElem?_eq_some_iff.1 h).1).trans h
theorem blk_lt' {w : World} {k : Nat} {x : Obj} (h : w.heap[k]? = some x) : k < w.heap.size := (Array.getElem?_eq_some_iff.1 h).1

set_option maxRecDepth 100000 in
set_option maxHeartbeats 400000 in
theorem just1_any (x j : S33) (A Aj : Option Addr) (c cj J : Nat) (W : World) (hJ : W.heap[J]? = some (.cells #[.int .i64 j.f0, .slice Aj j.f1.length cj] 33 (0, 0))) (hjC : ki.C W Aj j.f1.length j.f1) (hx : ki.C W A x.f1.length x.f1) :
    Calls Try.prog 46 #[.agg #[.int .i64 x.f0, .slice A x.f1.length c], .pointer (some ⟨J, 0, none⟩)] W fun e W' => e = .returned (.bool (jeq x j)) ∧ Below W.heap.size W W' := by
  have hB : Below W.heap.size W (W.alloc (.cells #[.int .i64 x.f0, .slice A x.f1.length c] 33)) := (Below.refl _ _).alloc (Nat.le_refl _) _
  have hJ2 := heap_alloc_lt W (.cells #[.int .i64 x.f0, .slice A x.f1.length c] 33) hJ
  have c0 : (W.alloc (.cells #[.int .i64 x.f0, .slice A x.f1.length c] 33)).cell? ⟨J, 0, none⟩ = some (.int .i64 j.f0) := by rw [cell_blk hJ2]; rfl
  have c1 : (W.alloc (.cells #[.int .i64 x.f0, .slice A x.f1.length c] 33)).cell? ⟨J, 1, none⟩ = some (.slice Aj j.f1.length cj) := by rw [cell_blk hJ2]; rfl
  have hs := same_any x j A Aj c cj (W.alloc (.cells #[.int .i64 x.f0, .slice A x.f1.length c] 33)) (Kd.C_below hx hB) (Kd.C_below hjC hB)
  have HS := Lib.hid hs
  clear hs hJ hJ2
  go_enter Try.func46, Try.ntmps46
  go_wp2_with (go_at_call 47; refine (HS.out).mono ?_; rintro e w' ⟨rfl, hb⟩)
  go_ret
  exact ⟨rfl, hB.trans (hb.mono (by simp))⟩

set_option maxRecDepth 100000 in
set_option maxHeartbeats 400000 in
theorem with1_any (x j : S33) (A Aj : Option Addr) (c cj J : Nat) (W : World) (hJ : W.heap[J]? = some (.cells #[.int .i64 j.f0, .slice Aj j.f1.length cj] 33 (0, 0))) (hjC : ki.C W Aj j.f1.length j.f1) (hx : ki.C W A x.f1.length x.f1) :
    Calls Try.prog 51 #[.agg #[.int .i64 x.f0, .slice A x.f1.length c], .pointer (some ⟨J, 0, none⟩)] W fun e W' => e = .returned (.bool (jeq x j)) ∧ Below W.heap.size W W' := by
  have hB : Below W.heap.size W (W.alloc (.cells #[.int .i64 x.f0, .slice A x.f1.length c] 33)) := (Below.refl _ _).alloc (Nat.le_refl _) _
  have hJ2 := heap_alloc_lt W (.cells #[.int .i64 x.f0, .slice A x.f1.length c] 33) hJ
  have c0 : (W.alloc (.cells #[.int .i64 x.f0, .slice A x.f1.length c] 33)).cell? ⟨J, 0, none⟩ = some (.int .i64 j.f0) := by rw [cell_blk hJ2]; rfl
  have c1 : (W.alloc (.cells #[.int .i64 x.f0, .slice A x.f1.length c] 33)).cell? ⟨J, 1, none⟩ = some (.slice Aj j.f1.length cj) := by rw [cell_blk hJ2]; rfl
  have hs := same_any x j A Aj c cj (W.alloc (.cells #[.int .i64 x.f0, .slice A x.f1.length c] 33)) (Kd.C_below hx hB) (Kd.C_below hjC hB)
  have HS := Lib.hid hs
  clear hs hJ hJ2
  go_enter Try.func51, Try.ntmps51
  go_wp2_with (go_at_call 47; refine (HS.out).mono ?_; rintro e w' ⟨rfl, hb⟩)
  go_ret
  exact ⟨rfl, hB.trans (hb.mono (by simp))⟩

theorem enters46 (args : Array Value) (w : World) : (callFunc 46 args).run Try.prog w = .ok (.enter 46 args) w := enters_of Try.func46 (by kernel_rfl) rfl args w
theorem enters51 (args : Array Value) (w : World) : (callFunc 51 args).run Try.prog w = .ok (.enter 51 args) w := enters_of Try.func51 (by kernel_rfl) rfl args w

theorem pred46 (j : S33) (Aj : Option Addr) (cj J : Nat) (l : List S33) (w : World) (hJ : w.heap[J]? = some (.cells #[.int .i64 j.f0, .slice Aj j.f1.length cj] 33 (0, 0))) (hjC : ki.C w Aj j.f1.length j.f1) : PredJ 46 #[.pointer (some ⟨J, 0, none⟩)] (fun x => jeq x j) l w :=
  fun W hW x _ A c hx => just1_any x j A Aj c cj J W ((hW.block J (blk_lt' hJ)).trans hJ) (Kd.C_below hjC hW) hx
theorem pred51 (j : S33) (Aj : Option Addr) (cj J : Nat) (l : List S33) (w : World) (hJ : w.heap[J]? = some (.cells #[.int .i64 j.f0, .slice Aj j.f1.length cj] 33 (0, 0))) (hjC : ki.C w Aj j.f1.length j.f1) : PredJ 51 #[.pointer (some ⟨J, 0, none⟩)] (fun x => jeq x j) l w :=
  fun W hW x _ A c hx => with1_any x j A Aj c cj J W ((hW.block J (blk_lt' hJ)).trans hJ) (Kd.C_below hjC hW) hx

/-- one justification in a block of its own, as a row -/
theorem F_one {W : World} {blk : Nat} {x : S33} {A : Option Addr} {c : Nat} {okt okp : Nat → Prop} (hb : W.heap[blk]? = some (.cells #[.int .i64 x.f0, .slice A x.f1.length c] 33 (0, 0))) (hc : x.f1.length ≤ c) (hF : Kd.F ki W okt A x.f1.length x.f1) (hblk : okp blk) (hok : ∀ k, okt k → okp k) :
    Kd.F k33 W okp (some ⟨blk, 0, none⟩) 1 [x] := by
  intro W' hW
  have hb' : W'.heap[blk]? = some (.cells #[.int .i64 x.f0, .slice A x.f1.length c] 33 (0, 0)) := (hW blk hblk (blk_lt' hb)).trans hb
  have hC : ki.C W' A x.f1.length x.f1 := hF W' (fun k hk hlt => hW k (hok k hk) hlt)
  refine ⟨rfl, by omega, fun _ => ⟨_, rfl, fun j p hj => ?_⟩⟩
  rcases j with _ | j
  · simp only [List.getElem?_cons_zero, Option.some.injEq] at hj
    subst hj
    refine ⟨[.int .i64 x.f0, .slice A x.f1.length c], rfl, k33_mk W' x hc hC, fun i u hu => ?_⟩
    have e : (⟨blk, 0, none⟩ : Addr).add (0 * k33.sz + i) = ⟨blk, i, none⟩ := by rw [Nat.zero_mul, Nat.zero_add]; exact add_plain blk i
    rw [e, cell_blk hb']
    simpa using hu
  · simp at hj
end Go.Proofs.Ytbmnefdiiibabaa
