import Derived.Test.YtbmnefdiiibabaaUB
namespace Go.Proofs.Ytbmnefdiiibabaa
set_option linter.unusedVariables false
set_option linter.unusedSimpArgs false
open Go.RowKit Go.Maps Go.Sort Go.Shelf Go.Proofs.YtbmnefdiiibabaaW.PrintWords Go.Proofs.YtbmnefdiiibabaaW.PrintMore PTruthPlays

def rwd1 (j : S33) (r : S69) : S69 := ⟨r.f0, r.f1, r.f2.filter (fun y => !jeq y j)⟩
def rhit (j : S33) (r : S69) : Bool := r.f2.any (fun y => jeq y j)
def rwd (rows : List S69) (j : S33) : List S69 := rows.map (rwd1 j)
def rout (rows : List S69) (j : S33) : List Int := (rows.filter (rhit j)).map (·.f0)
def rcur (rows : List S69) (j : S33) (k : Nat) : List S69 := (rows.take k).map (rwd1 j) ++ rows.drop k
theorem rcur_len (rows : List S69) (j : S33) (k : Nat) : (rcur rows j k).length = rows.length := by
  unfold rcur
  rw [List.length_append, List.length_map, List.length_take, List.length_drop]; omega
theorem rcur_at {rows : List S69} {j : S33} {k : Nat} (hk : k < rows.length) : (rcur rows j k)[k]'(by rw [rcur_len]; exact hk) = rows[k] := by
  unfold rcur
  rw [List.getElem_append_right (by rw [List.length_map, List.length_take]; omega)]
  simp only [List.length_map, List.length_take, Nat.min_eq_left (Nat.le_of_lt hk), Nat.sub_self, List.getElem_drop, Nat.add_zero]
theorem rcur_set {rows : List S69} {j : S33} {k : Nat} (hk : k < rows.length) : (rcur rows j k).set k (rwd1 j rows[k]) = rcur rows j (k + 1) := by
  unfold rcur
  have h1 : ((rows.take k).map (rwd1 j)).length = k := by rw [List.length_map, List.length_take]; omega
  rw [List.set_append_right k _ (by omega), h1, Nat.sub_self, List.drop_eq_getElem_cons hk, List.set_cons_zero, List.take_succ_eq_append_getElem hk, List.map_append, List.append_assoc]
  rfl
theorem rout_hit {rows : List S69} {j : S33} {k : Nat} (hk : k < rows.length) (h : rhit j rows[k] = true) : rout (rows.take (k + 1)) j = rout (rows.take k) j ++ [rows[k].f0] := by
  unfold rout
  rw [take_filter_hit hk h, List.map_append]; rfl
theorem rout_miss {rows : List S69} {j : S33} {k : Nat} (hk : k < rows.length) (h : rhit j rows[k] = false) : rout (rows.take (k + 1)) j = rout (rows.take k) j := by
  unfold rout
  rw [take_filter_miss hk h]
theorem rout_len (rows : List S69) (j : S33) (k : Nat) : (rout (rows.take k) j).length ≤ rows.length := by
  unfold rout
  rw [List.length_map]
  refine Nat.le_trans (List.length_filter_le _ _) ?_
  rw [List.length_take]; omega
end Go.Proofs.Ytbmnefdiiibabaa
