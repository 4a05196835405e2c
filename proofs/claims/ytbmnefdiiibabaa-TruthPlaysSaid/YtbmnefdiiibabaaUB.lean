import Derived.Test.YtbmnefdiiibabaaUA
import Derived.Test.YtbmnefdiiibabaaPTruthPlaysx7
import Derived.Test.YtbmnefdiiibabaaPTruthPlaysx8
namespace Go.Proofs.Ytbmnefdiiibabaa
set_option linter.unusedVariables false
set_option linter.unusedSimpArgs false
open Go.RowKit Go.Maps Go.Sort Go.Shelf Go.Proofs.YtbmnefdiiibabaaW.PrintWords Go.Proofs.YtbmnefdiiibabaaW.PrintMore PTruthPlays

theorem rd_at {l : List Int} {k : Nat} (hk : k < l.length) : YtbmnefdiiibabaaW.PrintWords.rd l (k : Int) = l[k] := by
  unfold YtbmnefdiiibabaaW.PrintWords.rd
  simp [List.getD_eq_getElem?_getD, hk]
theorem wrap_succ {k : Nat} (h : k ≤ 1000000) : wrap64 ((k : Int) + 1) = ((k + 1 : Nat) : Int) := by
  simp [wrap64, IntKind.wrap, IntKind.bits, IntKind.signed]; omega

theorem rows_l0 (l m : List Int) (hl : l.length ≤ 1000000) : ∀ (n k f : Nat), l.length - k = n → k ≤ l.length → k ≤ m.length → witanref26_Rows.l0 (2 * n + 2 + f) l m (k : Int) = some (lexc (l.drop k) (m.drop k))
  | 0, k, f, hn, hk, hm => by
    have e : 2 * 0 + 2 + f = f + 1 + 1 := by omega
    rw [e]
    unfold witanref26_Rows.l0
    have h1 : ¬ ((k : Int) < (l.length : Int)) := by omega
    rw [if_neg h1]
    unfold witanref26_Rows.j1
    simp only [Bool.false_eq_true, if_false]
    rw [List.drop_eq_nil_of_le (show l.length ≤ k by omega)]
    by_cases h2 : l.length < m.length
    · rw [if_pos (by omega), List.drop_eq_getElem_cons (show k < m.length by omega)]; rfl
    · rw [if_neg (by omega), if_neg (by omega), List.drop_eq_nil_of_le (show m.length ≤ k by omega)]; rfl
  | n + 1, k, f, hn, hk, hm => by
    have e : 2 * (n + 1) + 2 + f = (2 * n + 2 + f) + 1 + 1 := by omega
    rw [e]
    unfold witanref26_Rows.l0
    have hkl : k < l.length := by omega
    rw [if_pos (by omega)]
    unfold witanref26_Rows.j1
    by_cases h2 : k < m.length
    · have h2' : (k : Int) < (m.length : Int) := by omega
      simp only [h2', decide_true, if_true]
      rw [if_pos (by omega), if_pos (by omega), rd_at hkl, rd_at h2, lexc_step hkl h2]
      by_cases h3 : l[k] < m[k]
      · rw [if_pos h3, if_pos h3]
      · rw [if_neg h3, if_neg h3]
        by_cases h4 : m[k] < l[k]
        · rw [if_pos h4, if_pos h4]
        · rw [if_neg h4, if_neg h4, wrap_succ (by omega), rows_l0 l m hl n (k + 1) f (by omega) (by omega) (by omega)]
    · have h2' : ¬ (k : Int) < (m.length : Int) := by omega
      simp only [h2', decide_false, Bool.false_eq_true, if_false]
      rw [lexc_out hkl (by omega), if_neg (by omega), if_pos (by omega)]
theorem rows_f (l m : List Int) (hl : l.length ≤ 1000000) : witanref26_Rows.f (2 * l.length + 2) l m = some (lexc l m) := by
  have := rows_l0 l m hl l.length 0 0 (by omega) (by omega) (by omega)
  simpa [witanref26_Rows.f] using this

theorem rows_any (A B : Option Addr) (ca cb : Nat) (l m : List Int) (w : World) (hl : ki.C w A l.length l) (hm : ki.C w B m.length m) (hca : l.length ≤ ca) (hcb : m.length ≤ cb) (hll : l.length ≤ 1000000) :
    Calls Try.prog 11 #[.slice A l.length ca, .slice B m.length cb] w fun e w' => e = .returned (.int .i64 (lexc l m)) ∧ Drawn0 w w' :=
  witanref26_Rows.calls _ A ca l B cb m _ w hl hca hm hcb (rows_f l m hll)
theorem same44_any (x y : S33) (A B : Option Addr) (ca cb : Nat) (w : World) (hx : ki.C w A x.f1.length x.f1) (hy : ki.C w B y.f1.length y.f1) (hca : x.f1.length ≤ ca) (hcb : y.f1.length ≤ cb) (hll : x.f1.length ≤ 1000000) :
    Calls Try.prog 44 #[.agg #[.int .i64 x.f0, .slice A x.f1.length ca], .agg #[.int .i64 y.f0, .slice B y.f1.length cb]] w fun e w' => e = .returned (.bool (jeq x y)) ∧ Below w.heap.size w w' := by
  refine witanref29_Same.calls (2 * x.f1.length + 2) x.f0 A ca x.f1 y.f0 B cb y.f1 _ w hx hca hy hcb ?_
  unfold witanref29_Same.f
  rw [rows_f _ _ hll]
  by_cases h : x.f0 = y.f0
  · rw [if_pos h]
    simp only [Option.bind_some, Option.some.injEq]
    unfold jeq
    rw [Bool.eq_iff_iff]
    simp only [beq_iff_eq, Bool.and_eq_true]
    constructor
    · intro h2; exact ⟨h, lexc_eq h2⟩
    · rintro ⟨_, h2⟩; rw [h2]; exact lexc_refl _
  · rw [if_neg h]
    unfold jeq
    simp [h]
end Go.Proofs.Ytbmnefdiiibabaa
