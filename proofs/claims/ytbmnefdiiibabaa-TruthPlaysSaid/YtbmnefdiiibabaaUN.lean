import Derived.Test.YtbmnefdiiibabaaUM
import Derived.Test.YtbmnefdiiibabaaRows
import Derived.WalkKit
import Derived.ProofKit
import Derived.OpenShut
import Derived.ChangeOld
import Derived.Below
import Derived.SizedLaws
import Derived.Deep.Slices
import Derived.ChangeSlices
import Derived.ChangeSame
namespace Go.Proofs.Ytbmnefdiiibabaa
set_option linter.unusedVariables false
set_option linter.unusedSimpArgs false
open Go.ChangeShapes Go.WideShapes Go.ChangeAt Go.RowKit Go.Deep Go.Proofs.YtbmnefdiiibabaaW.PrintWords PTruthPlays

theorem wf_i64 {n : Int} (h : (Lit.int .i64 n).wf = true) : i64r n := by
  have hmin : IntKind.i64.min = -9223372036854775808 := rfl
  have hmax : IntKind.i64.max = 9223372036854775807 := rfl
  simp only [Lit.wf, Bool.and_eq_true, decide_eq_true_eq] at h
  unfold i64r
  omega
section
variable {H : Type} {enc : TypeId × Value → H} {w : World} {base : Nat} {spare : Nat → Bool} {held : Bool}
theorem open_31 {fuel : Nat} {cs : List Value} {x : DataW H × List MemPlace} (h : DataW.trod enc Try.prog w base spare held fuel 31 cs = some x) :
    ∃ (A : Option Addr) (len cap : Nat) (xs : List Int), cs = [.slice A len cap] ∧ len ≤ cap ∧ cap ≤ maxLen ∧ ki.C w A len xs ∧ ∀ z ∈ xs, i64r z := by
  rcases open_ints Try.underlying31 Try.underlying3 (by kernel_rfl) h with ⟨rfl, _⟩ | ⟨a, len, cap, zs, rfl, _, hl, hm, hz, _, hcell, hwf⟩
  · exact ⟨none, 0, 0, [], rfl, Nat.le_refl _, by unfold maxLen; omega, Kd.C_nil _ _, by simp⟩
  · have hlz : len ≤ zs.length := by rw [hz]; split <;> omega
    have hm' : len ≤ 9223372036854775807 := by unfold maxLen at hm; omega
    refine ⟨some a, len, cap, zs.take len, rfl, hl, hm, ⟨by rw [List.length_take]; omega, hm', fun hn => ⟨a, rfl, fun j p hj => ?_⟩⟩, fun z hz' => wf_i64 (hwf z (List.mem_of_mem_take hz'))⟩
    rw [List.getElem?_take] at hj
    split at hj
    · obtain ⟨hjl, rfl⟩ := List.getElem?_eq_some_iff.1 hj
      refine ⟨[.int .i64 zs[j]], rfl, rfl, fun i u hu => ?_⟩
      rcases i with _ | i
      · simp only [List.getElem?_cons_zero, Option.some.injEq] at hu
        subst hu
        have := hcell j hjl
        rw [List.getD_eq_getElem?_getD, List.getElem?_eq_getElem hjl, Option.getD_some] at this
        rw [show j * ki.sz + 0 = j from by show j * 1 + 0 = j; omega]
        exact this
      · simp at hu
    · cases hj
theorem len_two {α : Type} {l : List α} (h : l.length = 2) : ∃ a b, l = [a, b] := by
  match l, h with
  | [a, b], _ => exact ⟨a, b, rfl⟩
theorem len_four {α : Type} {l : List α} (h : l.length = 4) : ∃ a b c d, l = [a, b, c, d] := by
  match l, h with
  | [a, b, c, d], _ => exact ⟨a, b, c, d, rfl⟩
theorem cells33 : Try.prog.cellsOf 33 = 2 := by kernel_rfl
theorem cells35 : Try.prog.cellsOf 35 = 4 := by kernel_rfl
theorem cells3 : Try.prog.cellsOf 3 = 1 := by kernel_rfl
theorem cells31 : Try.prog.cellsOf 31 = 1 := by kernel_rfl
theorem get_some {α : Type} {l : List α} {n i : Nat} (h : l.length = n) (hi : i < n) : ∃ y, l[i]? = some y := ⟨_, List.getElem?_eq_getElem (by omega)⟩
theorem open_33 {fuel : Nat} {cs : List Value} {x : DataW H × List MemPlace} (h : DataW.trod enc Try.prog w base spare held fuel 33 cs = some x) :
    ∃ y : S33, k33.K w y cs ∧ ∀ z ∈ y.f1, i64r z := by
  obtain ⟨ys, n, _, _, hlen, hyl, hf⟩ := DataW.trod_struct Try.underlying33 h
  obtain ⟨c0, c1, rfl⟩ := len_two (hlen.trans cells33)
  · clear hlen
    have h0 := hf 0 _ rfl
    have h1 := hf 1 _ rfl
    obtain ⟨y0, e0⟩ := get_some (i := 0) hyl (by decide)
    obtain ⟨y1, e1⟩ := get_some (i := 1) hyl (by decide)
    replace h0 : DataW.trod enc Try.prog w base spare held n 3 [c0] = some y0 := by rw [← e0, ← h0]; show _ = DataW.trod enc Try.prog w base spare held n 3 (List.take (Try.prog.cellsOf 3) _); rw [cells3]; rfl
    replace h1 : DataW.trod enc Try.prog w base spare held n 31 [c1] = some y1 := by rw [← e1, ← h1]; show _ = DataW.trod enc Try.prog w base spare held n 31 (List.take (Try.prog.cellsOf 31) _); rw [cells31]; rfl
    obtain ⟨r, he, _, _⟩ := DataW.trod_int Try.underlying3 h0
    obtain ⟨A, len, cap, xs, he1, hc, _, hC, hz⟩ := open_31 h1
    have q0 := (List.cons.inj he).1
    have q1 := (List.cons.inj he1).1
    clear he he1 hf
    subst q0; subst q1
    have hx := hC.1
    subst hx
    exact ⟨⟨r, xs⟩, k33_mk w ⟨r, xs⟩ hc hC, hz⟩
theorem open_35 {fuel : Nat} {cs : List Value} {x : DataW H × List MemPlace} (h : DataW.trod enc Try.prog w base spare held fuel 35 cs = some x) :
    ∃ y : S35, k35.K w y cs ∧ i64r y.f1 ∧ ∀ z ∈ y.f2.f1, i64r z := by
  obtain ⟨ys, n, _, _, hlen, hyl, hf⟩ := DataW.trod_struct Try.underlying35 h
  obtain ⟨c0, c1, c2, c3, rfl⟩ := len_four (hlen.trans cells35)
  · clear hlen
    have h0 := hf 0 _ rfl
    have h1 := hf 1 _ rfl
    have h2 := hf 2 _ rfl
    obtain ⟨y0, e0⟩ := get_some (i := 0) hyl (by decide)
    obtain ⟨y1, e1⟩ := get_some (i := 1) hyl (by decide)
    obtain ⟨y2, e2⟩ := get_some (i := 2) hyl (by decide)
    replace h0 : DataW.trod enc Try.prog w base spare held n 3 [c0] = some y0 := by rw [← e0, ← h0]; show _ = DataW.trod enc Try.prog w base spare held n 3 (List.take (Try.prog.cellsOf 3) _); rw [cells3]; rfl
    replace h1 : DataW.trod enc Try.prog w base spare held n 3 [c1] = some y1 := by rw [← e1, ← h1]; show _ = DataW.trod enc Try.prog w base spare held n 3 (List.take (Try.prog.cellsOf 3) _); rw [cells3]; rfl
    replace h2 : DataW.trod enc Try.prog w base spare held n 33 [c2, c3] = some y2 := by rw [← e2, ← h2]; show _ = DataW.trod enc Try.prog w base spare held n 33 (List.take (Try.prog.cellsOf 33) _); rw [cells33]; rfl
    obtain ⟨a, he, _, _⟩ := DataW.trod_int Try.underlying3 h0
    obtain ⟨b, he1, _, hb⟩ := DataW.trod_int Try.underlying3 h1
    obtain ⟨y, hK, hz⟩ := open_33 h2
    have q0 := (List.cons.inj he).1
    have q1 := (List.cons.inj he1).1
    clear he he1 hf
    subst q0; subst q1
    refine ⟨⟨a, b, y⟩, ?_, wf_i64 hb, hz⟩
    exact ⟨[.int .i64 a], [.int .i64 b, c2, c3], rfl, rfl, ⟨[.int .i64 b], [c2, c3], rfl, rfl, hK⟩⟩
theorem open_22 {fuel : Nat} {cs : List Value} {x : DataW H × List MemPlace} (h : DataW.trod enc Try.prog w base spare held fuel 22 cs = some x) :
    ∃ (A : Option Addr) (len cap : Nat) (l : List S35), cs = [.slice A len cap] ∧ len ≤ cap ∧ k35.C w A len l ∧ ∀ o ∈ l, i64r o.f1 ∧ ∀ z ∈ o.f2.f1, i64r z := by
  rcases open_slice Try.underlying22 h with ⟨rfl, _⟩ | ⟨a, len, cap, m, n, D, Pl, rfl, _, hl, hm, hmm, _, hx⟩
  · exact ⟨none, 0, 0, [], rfl, Nat.le_refl _, Kd.C_nil _ _, by simp⟩
  · have hlm : len ≤ m := by rw [hmm]; split <;> omega
    have hm' : len ≤ 9223372036854775807 := by unfold maxLen at hm; omega
    rw [cells35] at hx
    have each : ∀ i, i < len → ∃ y : S35, (∃ c, c.length = 4 ∧ k35.K w y c ∧ ∀ j u, c[j]? = some u → w.cell? (a.add (i * 4 + j)) = some u) ∧ i64r y.f1 ∧ ∀ z ∈ y.f2.f1, i64r z := fun i hi => by
      obtain ⟨cs', h1, h2⟩ := hx i (by omega)
      obtain ⟨_, hcl, hat⟩ := World.cells?_some h1
      obtain ⟨y, hK, hz⟩ := open_35 h2
      refine ⟨y, ⟨cs', hcl, hK, fun j u hu => ?_⟩, hz⟩
      have hj : j < 4 := by have := (List.getElem?_eq_some_iff.1 hu).1; omega
      rw [← Go.Deep.add_add, hat j hj, hu]
    have pick : ∃ f : Nat → S35, ∀ i, i < len → (∃ c, c.length = 4 ∧ k35.K w (f i) c ∧ ∀ j u, c[j]? = some u → w.cell? (a.add (i * 4 + j)) = some u) ∧ i64r (f i).f1 ∧ ∀ z ∈ (f i).f2.f1, i64r z := by
      refine ⟨fun i => if h : i < len then (each i h).choose else ⟨0, 0, ⟨0, []⟩⟩, fun i hi => ?_⟩
      simp only [hi, dif_pos]
      exact (each i hi).choose_spec
    obtain ⟨f, hf⟩ := pick
    refine ⟨some a, len, cap, (List.range len).map f, rfl, hl, ⟨by simp, hm', fun hn => ⟨a, rfl, fun j p hj => ?_⟩⟩, fun o ho => ?_⟩
    · rw [List.getElem?_map] at hj
      obtain ⟨i, hi, rfl⟩ := Option.map_eq_some_iff.1 hj
      obtain ⟨hil, hie⟩ := List.getElem?_eq_some_iff.1 hi
      rw [List.getElem_range] at hie
      subst hie
      rw [List.length_range] at hil
      exact (hf j hil).1
    · obtain ⟨i, hi, rfl⟩ := List.mem_map.1 ho
      rw [List.mem_range] at hi
      exact (hf i hi).2
end
end Go.Proofs.Ytbmnefdiiibabaa
