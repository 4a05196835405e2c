import Derived.Test.YtbmnefdiiibabaaTO
import Derived.Shelf.SlSortCmp.WholeK
import Derived.Shelf.SlSortCmp.NoneTotal
namespace Go.Proofs.Ytbmnefdiiibabaa
set_option linter.unusedVariables false
set_option linter.unusedSimpArgs false
open Go.RowKit Go.Maps Go.Sort Go.Shelf Go.Proofs.YtbmnefdiiibabaaW.PrintWords Go.Proofs.YtbmnefdiiibabaaW.PrintMore PTruthPlays

theorem compareInt_lt (x y : Int) : Lib.compareInt x y < 0 ↔ x < y := by
  unfold Lib.compareInt
  split
  · simp [*]
  · split
    · constructor <;> intro h <;> omega
    · constructor <;> intro h <;> omega
theorem compareInt_zero (x y : Int) : Lib.compareInt x y = 0 ↔ x = y := by
  unfold Lib.compareInt
  split
  · constructor <;> intro h <;> omega
  · split
    · constructor <;> intro h <;> omega
    · constructor <;> intro h <;> omega
theorem jcmp_lt (x y : S33) : jcmp x y < 0 ↔ x.f0 < y.f0 ∨ x.f0 = y.f0 ∧ lexc x.f1 y.f1 < 0 := by
  unfold jcmp
  split
  · rename_i h
    rw [compareInt_zero] at h
    constructor
    · intro h2; exact .inr ⟨h, h2⟩
    · rintro (h2 | ⟨_, h2⟩)
      · omega
      · exact h2
  · rename_i h
    rw [compareInt_zero] at h
    rw [compareInt_lt]
    constructor
    · intro h2; exact .inl h2
    · rintro (h2 | ⟨h2, _⟩)
      · exact h2
      · exact absurd h2 h
theorem jcmp_irrefl (x : S33) : ¬ jcmp x x < 0 := by
  rw [jcmp_lt]; rintro (h | ⟨_, h⟩)
  · omega
  · rw [lexc_refl] at h; omega
theorem jcmp_trans (x y z : S33) (h1 : jcmp x y < 0) (h2 : jcmp y z < 0) : jcmp x z < 0 := by
  rw [jcmp_lt] at *
  rcases h1 with h1 | ⟨h1, h1'⟩ <;> rcases h2 with h2 | ⟨h2, h2'⟩
  · left; omega
  · left; omega
  · left; omega
  · right; exact ⟨by omega, lexc_trans _ _ _ h1' h2'⟩
theorem jcmp_total (x y : S33) (h1 : ¬ jcmp x y < 0) (h2 : ¬ jcmp y x < 0) : x.f0 = y.f0 ∧ x.f1 = y.f1 := by
  rw [jcmp_lt] at *
  have e : x.f0 = y.f0 := by
    rcases Int.lt_trichotomy x.f0 y.f0 with h | h | h
    · exact absurd (.inl h) h1
    · exact h
    · exact absurd (.inl h) h2
  refine ⟨e, lexc_eq ?_⟩
  have a1 : ¬ lexc x.f1 y.f1 < 0 := fun h => h1 (.inr ⟨e, h⟩)
  have a2 : ¬ lexc y.f1 x.f1 < 0 := fun h => h2 (.inr ⟨e.symm, h⟩)
  rw [lexc_flip] at a2
  omega
theorem jcmp_ntrans (x y z : S33) (h1 : ¬ jcmp x y < 0) (h2 : ¬ jcmp y z < 0) : ¬ jcmp x z < 0 := by
  intro h
  by_cases hyx : jcmp y x < 0
  · exact h2 (jcmp_trans _ _ _ hyx h)
  · obtain ⟨e1, e2⟩ := jcmp_total x y h1 hyx
    have : x = y := by cases x; cases y; simp_all
    subst this; exact h2 h

/-! ### the worlds of the sort -/
theorem stp_sort {α : Type} [Inhabited α] (enc : α → List Value) (k : Nat) (w : World) (G off m : Nat) (d : Array α) (os : Array Obj) : Stp (· = G) w (sortWorldK enc k w G off m d os) := by
  refine ⟨rfl, rfl, rfl, ?_, fun i hi hn => ?_⟩
  · show w.heap.size ≤ ((w.heap.modify G _) ++ os).size
    simp
  · show ((w.heap.modify G _) ++ os)[i]? = w.heap[i]?
    rw [Array.getElem?_append_left (by simpa using hi), Array.getElem?_modify]
    simp [Ne.symm hn]
theorem blk_sort {α : Type} [Inhabited α] (enc : α → List Value) (k : Nat) (w : World) (G off m : Nat) (d : Array α) (os : Array Obj) {cur : Array Value} {e : Nat} (h : w.heap[G]? = some (.cells cur e (0, 0))) :
    ∃ cur', (sortWorldK enc k w G off m d os).heap[G]? = some (.cells cur' e (0, 0)) := by
  refine ⟨putCells id off (flatK enc k d) cur, ?_⟩
  show ((w.heap.modify G _) ++ os)[G]? = _
  rw [Array.getElem?_append_left (by simpa using blk_lt' h), Array.getElem?_modify]
  simp [h, onCells]

def encP (x : S33 × Value) : List Value := [.int .i64 x.1.f0, x.2]
/-- the row's cells are those justifications -/
def RowP (W : World) (G : Nat) (xs : List (S33 × Value)) : Prop := ∃ cur, W.heap[G]? = some (.cells cur 33 (0, 0)) ∧ ∀ i (hi : i < xs.length), cur[i * 2]? = some (.int .i64 xs[i].1.f0) ∧ cur[i * 2 + 1]? = some xs[i].2

theorem agg33 (w : World) : (isAgg 33).run Try.prog w = .ok true w := by kernel_rfl
theorem sizeOf33 (w : World) : (Go.sizeOf 33).run Try.prog w = .ok 2 w := by kernel_rfl
theorem enters37 (args : Array Value) (w : World) : (callFunc 37 args).run Try.prog w = .ok (.enter 37 args) w := enters_of Try.func37 (by kernel_rfl) rfl args w

theorem permIn_all {α : Type} [Inhabited α] {d d' : Array α} (h : PermIn 0 d.size d d') : d'.toList.Perm d.toList := by
  obtain ⟨h1, _, h3⟩ := h
  rw [Array.extract_size, show d.size = d'.size from h1.symm, Array.extract_size] at h3
  exact h3
theorem sortedIn_all {α : Type} [Inhabited α] {lt : α → α → Bool} {d : Array α} {n : Nat} (hn : d.size = n) (h : SortedIn lt 0 n d) : d.toList.Pairwise (fun x y => lt y x = false) := by
  rw [List.pairwise_iff_getElem]
  intro i j hi hj hij
  have := h i j (Nat.zero_le _) hij (by rw [← hn]; simpa using hj)
  rw [getElem!_pos d i (by simpa using hi), getElem!_pos d j (by simpa using hj)] at this
  simpa using this

set_option maxHeartbeats 1000000 in
theorem sort36_any (w : World) (G c base : Nat) (okT : Nat → Prop) (xs : List (S33 × Value)) (hR : RowP w G xs) (hN : ∀ x ∈ xs, Kd.N ki 3 w base okT x.2 x.1.f1) (hok : ∀ i, okT i → i ≠ G) (hlen : xs.length ≤ 1000000) :
    Calls Try.prog 36 #[.slice (some ⟨G, 0, none⟩) xs.length c, .func (.func 37) #[] #[]] w fun e w' => e = .returned (.tuple #[]) ∧ ∃ ys, ys.Perm xs ∧ ys.Pairwise (fun x y => ¬ jcmp y.1 x.1 < 0) ∧ RowP w' G ys ∧ Stp (· = G) w w' := by
  let α := {x : S33 × Value // Kd.N ki 3 w base okT x.2 x.1.f1}
  haveI : Inhabited α := ⟨⟨(⟨0, []⟩, .slice none 0 0), Kd.N_nil _ _ _ _ _⟩⟩
  let enc : α → List Value := fun x => encP x.1
  let cf : α → α → Int := fun x y => jcmp x.1.1 y.1.1
  let dl : List α := xs.pmap Subtype.mk hN
  have hdl : dl.map (·.1) = xs := by simp [dl, List.map_pmap]
  have hdlen : dl.length = xs.length := by simp [dl]
  let d : Array α := dl.toArray
  have hds : d.size = xs.length := by simp [d, hdlen]
  obtain ⟨cur, hG, hc⟩ := hR
  have hget : ∀ i (hi : i < xs.length), (d[i]!).1 = xs[i] := by
    intro i hi
    rw [getElem!_pos d i (by rw [hds]; exact hi)]
    simp [d, dl]
  have hH : HoldsK enc 2 w G 0 d := by
    intro t ht
    rw [size_flatK, hds] at ht
    have hi : t / 2 < xs.length := by omega
    rw [get_flatK _ _ _ _ (by rw [hds]; exact ht)]
    refine ⟨?_, blk_frozen hG _⟩
    rw [cell_blk hG]
    obtain ⟨h1, h2⟩ := hc _ hi
    have e0 : enc d[t / 2]! = [.int .i64 xs[t / 2].1.f0, xs[t / 2].2] := by
      show encP (d[t / 2]!).1 = _
      rw [hget _ hi]; rfl
    rw [e0]
    rcases Nat.mod_two_eq_zero_or_one t with h | h
    · rw [h, Nat.zero_add]
      have : t = t / 2 * 2 := by omega
      rw [← this] at h1
      rw [h1]; rfl
    · rw [h, Nat.zero_add]
      have : t = t / 2 * 2 + 1 := by omega
      rw [← this] at h2
      rw [h2]; rfl
  have hO : SWO (ltOf cf) := by
    refine ⟨fun x => ?_, fun x y z h1 h2 => ?_, fun x y z h1 h2 => ?_⟩
    · simpa [ltOf, cf] using jcmp_irrefl x.1.1
    · simp only [ltOf, cf, decide_eq_true_eq] at *
      exact jcmp_trans _ _ _ h1 h2
    · simp only [ltOf, cf, decide_eq_false_iff_not] at *
      exact jcmp_ntrans _ _ _ h1 h2
  have hcmp : CmpLays Try.prog 37 #[] enc 2 cf G 0 d.size w := by
    intro m os dk hdk x y
    obtain ⟨⟨x, vx⟩, hx⟩ := x
    obtain ⟨⟨y, vy⟩, hy⟩ := y
    have hs := stp_sort enc 2 w G 0 m dk os
    have hx' : Kd.N ki 3 w base okT vx x.f1 := hx
    have hy' : Kd.N ki 3 w base okT vy y.f1 := hy
    obtain ⟨A, ca, hvx⟩ := Kd.N_slice hx'
    obtain ⟨B, cb, hvy⟩ := Kd.N_slice hy'
    subst hvx; subst hvy
    exact of1_any x y A B ca cb _ (Kd.F_now (Kd.F_step (Kd.N_F hx') (fun i hi hlt => hs.block i hlt (hok i hi)))) (Kd.F_now (Kd.F_step (Kd.N_F hy') (fun i hi hlt => hs.block i hlt (hok i hi))))
  have hcon := AnyQ.slices_SortFunc Try.sortJ 2 agg33 sizeOf33 enc (fun _ => rfl) (by
    rintro ⟨⟨x, vx⟩, hx⟩ v hv
    simp only [enc, encP, List.mem_cons, List.not_mem_nil, or_false] at hv
    rcases hv with rfl | rfl
    · rfl
    · exact (Kd.N_val hx).2) cf hO 37 #[] G 0 c d w enters37 hcmp hH (blk_lt' hG) (by rw [hds]; omega)
  rw [hds] at hcon
  refine Calls.mono hcon ?_
  rintro e w' ⟨rfl, d', n, os, hp, hsd, rfl⟩
  have hd' : d'.size = xs.length := hp.1.trans hds
  have hp2 := permIn_all (d := d) (d' := d') (by rw [hds]; exact hp)
  refine ⟨rfl, d'.toList.map (·.1), ?_, ?_, ?_, stp_sort _ _ _ _ _ _ _ _⟩
  · rw [← hdl]; exact hp2.map _
  · have h2 := sortedIn_all hd' hsd
    rw [List.pairwise_map]
    exact h2.imp (fun h => by simpa [ltOf, cf] using h)
  · obtain ⟨cur', hG'⟩ := blk_sort enc 2 w G 0 n d' os hG
    have hH' := holdsK_sortWorldK_c enc 2 w G 0 d d' n os hH (blk_lt' hG) (by rw [hd', hds])
    refine ⟨cur', hG', fun i hi => ?_⟩
    have hi' : i < d'.size := by simpa using hi
    have c0 := (hH'.cell (c := 0) hi' (by omega)).1
    have c1 := (hH'.cell (c := 1) hi' (by omega)).1
    rw [cell_blk hG', getElem!_pos d' i hi'] at c0 c1
    simp only [Nat.zero_add, Nat.add_zero] at c0 c1
    refine ⟨?_, ?_⟩
    · rw [c0]; simp [enc, encP]
    · rw [c1]; simp [enc, encP]
theorem sort36_none (c : Nat) (w : World) : Calls Try.prog 36 #[.slice none 0 c, .func (.func 37) #[] #[]] w fun e w' => e = .returned (.tuple #[]) ∧ w' = w := AnyF.slices_SortFunc_none Try.sortJ none c _ w
end Go.Proofs.Ytbmnefdiiibabaa
