import Derived.Test.YtbmnefdiiibabaaPTruthPlaysx8
import Derived.WalkSpells
import Derived.WalkLawsBesides
import Derived.Maps.OwnOps
import Derived.Maps.OwnSet
import Derived.Maps.Ext
import Derived.Maps.RangeWalk
import Derived.Lib.SlKeysI
import Derived.StillTailTactics
import Derived.Lib.Hide
namespace Go.Proofs.Ytbmnefdiiibabaa
open Go.RowKit

theorem cell_blk {w : World} {b : Nat} {cs : Array Value} {t : TypeId} (h : w.heap[b]? = some (.cells cs t (0, 0))) (i : Nat) : w.cell? ⟨b, i, none⟩ = cs[i]? := cell_of_row w b i cs t (0, 0) h

theorem field57_0 (x y : Value) (W : World) : (Instr.field 57 (.agg #[x, y]) 0).run Try.prog W = .ok x W := by kernel_rfl
theorem field57_1 (x y : Value) (W : World) : (Instr.field 57 (.agg #[x, y]) 1).run Try.prog W = .ok y W := by kernel_rfl

set_option maxHeartbeats 400000 in
theorem none_any (B M : Nat) (w : World) (hB : w.heap[B]? = some (.cells #[.map (some M)] 49 (0, 0))) :
    Calls Try.prog 28 #[.pointer (some ⟨B, 0, none⟩)] w fun e w' => e = .returned (.bool false) ∧ w = w' := by
  have hc : w.cell? ⟨B, 0, none⟩ = some (.map (some M)) := by rw [cell_blk hB]; rfl
  have q47 : ∀ (w : World) (r : Option Nat), (binOp .eql 47 (.map r) (.map none)).run Try.prog w = .ok (.bool r.isNone) w := fun w r => run_eql_map_nil w _ _ _ r Try.underlying47
  go_enter Try.func28, Try.ntmps28
  go_wp2
  go_ret
  exact ⟨rfl, rfl⟩

set_option maxHeartbeats 400000 in
theorem new_any (w : World) :
    Calls Try.prog 6 #[] w fun e w' => e = .returned (.pointer (some ⟨w.heap.size + 1, 0, none⟩)) ∧ w' = (w.alloc (.map #[] 0)).alloc (.cells #[.map (some w.heap.size)] 49) := by
  have hmm := @run_makeMap Try.prog
  go_enter Try.func6, Try.ntmps6
  go_wp2
  go_ret
  exact ⟨rfl, rfl⟩
end Go.Proofs.Ytbmnefdiiibabaa

namespace Go.Proofs.Ytbmnefdiiibabaa
set_option linter.unusedVariables false
set_option linter.unusedSimpArgs false
open Go.RowKit Go.Proofs.YtbmnefdiiibabaaW.PrintWords PTruthPlays

/-- two lists, element by element -/
def F2 {α β : Type} (R : α → β → Prop) : List α → List β → Prop
  | [], [] => True
  | a :: l, b :: m => R a b ∧ F2 R l m
  | _, _ => False
theorem F2.len {α β : Type} {R : α → β → Prop} : ∀ {l : List α} {m : List β}, F2 R l m → l.length = m.length
  | [], [], _ => rfl
  | _ :: _, _ :: _, h => by simp [F2.len h.2]
  | [], _ :: _, h => h.elim
  | _ :: _, [], h => h.elim
theorem F2.imp {α β : Type} {R R' : α → β → Prop} (hi : ∀ a b, R a b → R' a b) : ∀ {l : List α} {m : List β}, F2 R l m → F2 R' l m
  | [], [], _ => trivial
  | _ :: _, _ :: _, h => ⟨hi _ _ h.1, F2.imp hi h.2⟩
  | [], _ :: _, h => h.elim
  | _ :: _, [], h => h.elim

/-! ### the program's book -/
abbrev Ent := Int × Bool × List S33
/-- every value reads as itself -/
def heldR : Value → Option (DataW Value × List MemPlace) := fun v => some (.held v, [])
abbrev K47 := Maps.int_keyed Try.underlying3
theorem zero57 (w : World) : (zeroValue 57).run Try.prog w = .ok (.agg #[.bool false, .slice none 0 0]) w := by kernel_rfl
theorem wf64 {k : Int} (h : -9223372036854775808 ≤ k ∧ k ≤ 9223372036854775807) : (Lit.int .i64 k).wf = true := by
  have hmin : IntKind.i64.min = -9223372036854775808 := rfl
  have hmax : IntKind.i64.max = 9223372036854775807 := rfl
  simp only [Lit.wf, Bool.and_eq_true, decide_eq_true_eq]; omega
theorem key64 {k : Int} (h : -9223372036854775808 ≤ k ∧ k ≤ 9223372036854775807) : keyOf Try.prog 3 (.int .i64 k) = some (.int .i64 k) := Maps.keyOf_int_mk Try.underlying3 (wf64 h)

def i64r (k : Int) : Prop := -9223372036854775808 ≤ k ∧ k ≤ 9223372036854775807

def HeldV (w : World) (ok : Nat → Prop) (x : Bool × List S33) (v : Value) : Prop :=
  ∃ A c, v = .agg #[.bool x.1, .slice A x.2.length c] ∧ x.2.length ≤ c ∧ Kd.F k33 w ok A x.2.length x.2
def BRow (w : World) (ok : Nat → Prop) (y : Lit × DataW Value) (x : Ent) : Prop := y.1 = .int .i64 x.1 ∧ ∃ v, y.2 = .held v ∧ HeldV w ok x.2 v

/-- a map's entries are a book's -/
structure MapB (w : World) (ok : Nat → Prop) (M : Nat) (b : List Ent) : Prop where
  ex : ∃ l, w.ownsMap Try.prog 3 heldR M b.length (.map l) ∧ F2 (BRow w ok) l b

def bfind (b : List Ent) (k : Int) : Option (Bool × List S33) := (b.find? (fun x => x.1 == k)).map (·.2)
def insE (x : Ent) : List Ent → List Ent
  | [] => [x]
  | y :: r => if x.1 < y.1 then x :: y :: r else y :: insE x r
def bdel (b : List Ent) (k : Int) : List Ent := b.filter (fun x => !(x.1 == k))
def bput (b : List Ent) (k : Int) (v : Bool × List S33) : List Ent := insE (k, v) (bdel b k)

theorem sameKey_int (a b : Int) : (Lit.int .i64 a).sameKey (.int .i64 b) = (a == b) := by
  simp only [Lit.sameKey, true_and]
  rw [Bool.eq_iff_iff]; simp

theorem find_rows {w : World} {ok : Nat → Prop} {l : List (Lit × DataW Value)} {b : List Ent} (h : F2 (BRow w ok) l b) (k : Int) :
    (l.find? (fun p => p.1.sameKey (.int .i64 k)) = none ∧ bfind b k = none) ∨
    ∃ y x, l.find? (fun p => p.1.sameKey (.int .i64 k)) = some y ∧ bfind b k = some x.2 ∧ BRow w ok y x := by
  match l, b, h with
  | [], [], _ => exact .inl ⟨rfl, rfl⟩
  | [], _ :: _, h => exact h.elim
  | _ :: _, [], h => exact h.elim
  | y :: l, x :: b, ⟨hyx, hr⟩ =>
    have ih := find_rows hr k
    have hk : y.1.sameKey (.int .i64 k) = (x.1 == k) := by rw [hyx.1]; exact sameKey_int _ _
    cases hx : (x.1 == k) with
    | true => exact .inr ⟨y, x, by simp [List.find?_cons, hk, hx], by simp [bfind, List.find?_cons, hx], hyx⟩
    | false =>
      rcases ih with ⟨h1, h2⟩ | ⟨y', x', h1, h2, h3⟩
      · exact .inl ⟨by simp [List.find?_cons, hk, hx, h1], by simpa [bfind, List.find?_cons, hx] using h2⟩
      · exact .inr ⟨y', x', by simp [List.find?_cons, hk, hx, h1], by simpa [bfind, List.find?_cons, hx] using h2, h3⟩

theorem forall2_filter {w : World} {ok : Nat → Prop} {l : List (Lit × DataW Value)} {b : List Ent} (h : F2 (BRow w ok) l b) (k : Int) :
    F2 (BRow w ok) (l.filter (fun p => !p.1.sameKey (.int .i64 k))) (bdel b k) := by
  match l, b, h with
  | [], [], _ => trivial
  | [], _ :: _, h => exact h.elim
  | _ :: _, [], h => exact h.elim
  | y :: l, x :: b, ⟨hyx, hr⟩ =>
    have ih := forall2_filter hr k
    have hk : y.1.sameKey (.int .i64 k) = (x.1 == k) := by rw [hyx.1]; exact sameKey_int _ _
    unfold bdel at ih ⊢
    cases hx : (x.1 == k) with
    | true => simpa [List.filter_cons, hk, hx] using ih
    | false =>
      simp only [List.filter_cons, hk, hx]
      exact ⟨hyx, ih⟩

theorem forall2_insert {w : World} {ok : Nat → Prop} {l : List (Lit × DataW Value)} {b : List Ent} {y : Lit × DataW Value} {x : Ent} (hyx : BRow w ok y x) (h : F2 (BRow w ok) l b) :
    F2 (BRow w ok) (DataW.insert y l) (insE x b) := by
  match l, b, h with
  | [], [], _ => exact ⟨hyx, trivial⟩
  | [], _ :: _, h => exact h.elim
  | _ :: _, [], h => exact h.elim
  | y' :: l, x' :: b, ⟨hyx', hr⟩ =>
    have ih := forall2_insert hyx hr
    unfold DataW.insert insE
    have hb : y.1.before y'.1 = decide (x.1 < x'.1) := by rw [hyx.1, hyx'.1]; rfl
    by_cases hlt : x.1 < x'.1
    · simp only [hb, hlt, decide_true, if_true]; exact ⟨hyx, hyx', hr⟩
    · simp only [hb, hlt, decide_false, if_false]; exact ⟨hyx', ih⟩

theorem owns_len {w : World} {M n : Nat} {l : List (Lit × DataW Value)} (h : w.ownsMap Try.prog 3 heldR M n (.map l)) : w.ownsMap Try.prog 3 heldR M l.length (.map l) := by
  obtain ⟨es, clock, hb, F, _, hD⟩ := h
  refine ⟨es, clock, hb, F, ?_, hD⟩
  injection hD with hD
  rw [hD, length_sorted]
  simp

theorem forall2_len {w : World} {ok : Nat → Prop} {l : List (Lit × DataW Value)} {b : List Ent} (h : F2 (BRow w ok) l b) : l.length = b.length := h.len

/-- the look-up, in whatever world in which the map's block is as it was -/
theorem look_run {w : World} {M n : Nat} {D : DataW Value} (h : w.ownsMap Try.prog 3 heldR M n D) {k : Int} (hk : i64r k) :
    ∃ v, D.atKey (.int .i64 k) (.held (.agg #[.bool false, .slice none 0 0])) = .held v ∧
      ∀ W : World, W.heap[M]? = w.heap[M]? → (Instr.lookup 47 (.map (some M)) (.int .i64 k) false).run Try.prog W = .ok v W := by
  obtain ⟨v, ps, hrun, hv⟩ := h.lookup K47 Try.underlying47 (zero57 w) (zd := .held (.agg #[.bool false, .slice none 0 0])) (zp := []) rfl (key64 hk)
  have hv' : D.atKey (.int .i64 k) (.held (.agg #[.bool false, .slice none 0 0])) = .held v := by
    simp only [heldR, Option.some.injEq, Prod.mk.injEq] at hv
    exact hv.1.symm
  refine ⟨v, hv', fun W hW => ?_⟩
  have hW' : W.ownsMap Try.prog 3 heldR M n D := by
    obtain ⟨es, clock, hb, r⟩ := h
    exact ⟨es, clock, hW.trans hb, r⟩
  obtain ⟨v2, ps2, hrun2, hv2⟩ := hW'.lookup K47 Try.underlying47 (zero57 W) (zd := .held (.agg #[.bool false, .slice none 0 0])) (zp := []) rfl (key64 hk)
  simp only [heldR, Option.some.injEq, Prod.mk.injEq] at hv2
  have : v2 = v := by
    have h3 := hv2.1.trans hv'
    injection h3
  rw [← this]; exact hrun2

/-- what a look-up in a book answers -/
def bget (b : List Ent) (k : Int) : Bool × List S33 := (bfind b k).getD (false, [])

theorem heldV_zero (w : World) (ok : Nat → Prop) : HeldV w ok (false, []) (.agg #[.bool false, .slice none 0 0]) := ⟨none, 0, rfl, Nat.le_refl _, Kd.F_nil _ _ _⟩

theorem MapB.look {w : World} {ok : Nat → Prop} {M : Nat} {b : List Ent} (h : MapB w ok M b) {k : Int} (hk : i64r k) :
    ∃ v, HeldV w ok (bget b k) v ∧ ∀ W : World, W.heap[M]? = w.heap[M]? → (Instr.lookup 47 (.map (some M)) (.int .i64 k) false).run Try.prog W = .ok v W := by
  obtain ⟨l, hown, hF⟩ := h.ex
  obtain ⟨v, hat, hrun⟩ := look_run hown hk
  refine ⟨v, ?_, hrun⟩
  unfold bget
  rcases find_rows hF k with ⟨h1, h2⟩ | ⟨y, x, h1, h2, _, v', hv', hh⟩
  · rw [h2]
    simp only [DataW.atKey, h1] at hat
    injection hat with hat
    rw [← hat]; exact heldV_zero w ok
  · rw [h2]
    simp only [DataW.atKey, h1] at hat
    rw [hv'] at hat
    injection hat with hat
    rw [← hat]; exact hh

theorem HeldV.step {w w1 : World} {ok : Nat → Prop} {x : Bool × List S33} {v : Value} (h : HeldV w ok x v) (hm : ∀ k, ok k → k < w.heap.size → w1.heap[k]? = w.heap[k]?) : HeldV w1 ok x v := by
  obtain ⟨A, c, rfl, hc, hF⟩ := h
  exact ⟨A, c, rfl, hc, Kd.F_step hF hm⟩
theorem HeldV.mono {w : World} {ok ok' : Nat → Prop} {x : Bool × List S33} {v : Value} (h : HeldV w ok x v) (hok : ∀ k, ok k → k < w.heap.size → ok' k) : HeldV w ok' x v := by
  obtain ⟨A, c, rfl, hc, hF⟩ := h
  exact ⟨A, c, rfl, hc, Kd.F_mono (Kd.F_bound hF) (fun k hk => hok k hk.1 hk.2)⟩
theorem rows_imp {w w1 : World} {ok ok1 : Nat → Prop} (hi : ∀ x v, HeldV w ok x v → HeldV w1 ok1 x v) {l : List (Lit × DataW Value)} {b : List Ent} (h : F2 (BRow w ok) l b) : F2 (BRow w1 ok1) l b :=
  h.imp fun _ _ hyx => ⟨hyx.1, hyx.2.imp fun v hv => ⟨hv.1, hi _ _ hv.2⟩⟩

theorem MapB.step {w w1 : World} {ok : Nat → Prop} {M : Nat} {b : List Ent} (h : MapB w ok M b) (hM : w1.heap[M]? = w.heap[M]?) (hm : ∀ k, ok k → k < w.heap.size → w1.heap[k]? = w.heap[k]?) : MapB w1 ok M b := by
  obtain ⟨l, ⟨es, clock, hb, r⟩, hF⟩ := h.ex
  exact ⟨l, ⟨es, clock, hM.trans hb, r⟩, rows_imp (fun _ _ hv => hv.step hm) hF⟩
theorem MapB.mono {w : World} {ok ok' : Nat → Prop} {M : Nat} {b : List Ent} (h : MapB w ok M b) (hok : ∀ k, ok k → k < w.heap.size → ok' k) : MapB w ok' M b := by
  obtain ⟨l, hown, hF⟩ := h.ex
  exact ⟨l, hown, rows_imp (fun _ _ hv => hv.mono hok) hF⟩

theorem MapB.put {w : World} {ok : Nat → Prop} {M : Nat} {b : List Ent} (h : MapB w ok M b) {k : Int} {x : Bool × List S33} {v : Value} (hv : HeldV w ok x v) {w1 : World} {n : Nat} (hg : w.grownBy w1 (some M)) (hM : ¬ ok M)
    {l : List (Lit × DataW Value)} (h1 : w1.ownsMap Try.prog 3 heldR M n ((DataW.map l).put (.int .i64 k) (.held v))) (hF : F2 (BRow w ok) l b) : MapB w1 ok M (bput b k x) := by
  have hs : ∀ j, ok j → j < w.heap.size → w1.heap[j]? = w.heap[j]? := fun j hj hlt => hg.block j hlt (fun e => hM (by injection e with e; rw [← e]; exact hj))
  have hF2 : F2 (BRow w1 ok) (DataW.insert (.int .i64 k, .held v) (l.filter fun p => !p.1.sameKey (.int .i64 k))) (bput b k x) :=
    rows_imp (fun _ _ hx => hx.step hs) (forall2_insert (y := (.int .i64 k, .held v)) (x := (k, x)) ⟨rfl, v, rfl, hv⟩ (forall2_filter hF k))
  refine ⟨_, ?_, hF2⟩
  have h2 := owns_len (l := DataW.insert (.int .i64 k, .held v) (l.filter fun p => !p.1.sameKey (.int .i64 k))) (n := n) h1
  rwa [forall2_len hF2] at h2
end Go.Proofs.Ytbmnefdiiibabaa

namespace Go.Proofs.Ytbmnefdiiibabaa
set_option linter.unusedVariables false
set_option linter.unusedSimpArgs false
open Go.RowKit Go.Proofs.YtbmnefdiiibabaaW.PrintWords PTruthPlays

set_option maxRecDepth 100000 in
set_option maxHeartbeats 400000 in
theorem plain_any (B M : Nat) (b : List Ent) (w : World) (ok : Nat → Prop) (k : Int) (hk : i64r k) (hB : w.heap[B]? = some (.cells #[.map (some M)] 49 (0, 0))) (hMB : MapB w ok M b) (hM : ¬ ok M) (hlen : b.length < 1000000) :
    Calls Try.prog 18 #[.pointer (some ⟨B, 0, none⟩), .int .i64 k] w fun e w' => e = .returned (.tuple #[]) ∧ MapB w' ok M (bput b k (true, (bget b k).2)) ∧ w.grownBy w' (some M) := by
  have hc : w.cell? ⟨B, 0, none⟩ = some (.map (some M)) := by rw [cell_blk hB]; rfl
  obtain ⟨v, hv, hrun⟩ := hMB.look hk
  obtain ⟨A, c, rfl, hcl, hF⟩ := hv
  go_enter Try.func18, Try.ntmps18
  go_wp2_with (go_at_call 28; refine (none_any B M _ hB).mono ?_; rintro e w' ⟨rfl, rfl⟩)
  obtain ⟨w2, hE⟩ : ∃ w2, w2 = w.drew := ⟨_, rfl⟩
  have hc2 : w2.cell? ⟨B, 0, none⟩ = some (.map (some M)) := by rw [hE]; exact hc
  have hl2 := hrun w2 (by rw [hE]; rfl)
  refine wp_region_still_tail 13 (by kernel_rfl) (by kernel_rfl) ?_
  change wpStill _ _ w.drew (fun a' => wpList _ _ _ _ a' w.drew) _ _
  rw [← hE]
  have HE := Lib.hid hE
  have hf57 := field57_1
  clear hE hc hrun
  simp only [List.take_succ_cons, List.take_zero, List.drop_succ_cons, List.drop_zero]
  repeat still_step
  refine wpStill_nil ?_
  obtain ⟨l, hown, hFl⟩ := hMB.ex
  have hown2 : w2.ownsMap Try.prog 3 heldR M b.length (.map l) := by rw [HE.out]; exact hown
  have hkey := key64 hk
  go_wp2_with (at_mapUpdate; refine wpList_mapUpdate_own _ rfl _ _ _ 47 rfl 3 57 K47 Try.underlying47 heldR M b.length (.map l) rfl hown2 (by unfold maxLen; omega) _ _ (.int .i64 k) rfl rfl hkey (.held (.agg #[.bool true, .slice A (bget b k).2.length c])) [] rfl ?_; intro w1 hown1 hgrow1)
  go_end0
  have hg : w.grownBy w1 (some M) := by
    have := hgrow1
    rw [HE.out] at this
    exact ⟨this.os, this.tape, this.output, this.size, this.block⟩
  exact ⟨rfl, hMB.put (x := (true, (bget b k).2)) ⟨A, c, rfl, hcl, hF⟩ hg hM (n := b.length + 1) hown1 hFl, hg⟩
end Go.Proofs.Ytbmnefdiiibabaa
