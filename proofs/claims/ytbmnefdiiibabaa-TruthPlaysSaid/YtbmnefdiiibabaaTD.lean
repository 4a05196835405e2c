import Derived.Test.YtbmnefdiiibabaaTC
import Derived.Test.YtbmnefdiiibabaaShelf
import Derived.Shelf.SlIterI.Sorted
import Derived.TacticsInMore
namespace Go.Proofs
open Go.RowKit Go.Maps Go.Sort Go.Shelf
theorem Try.sortsA (m : Nat) : AnyZI.SortsIn Try.prog Try.sortedA_ren Fence.wide m :=
  ⟨fun blk off cap ss W hH hblk hsz => callsIn_wide.2 (Try.slices_Sort_int blk off cap ss W hH hblk hsz),
   fun p cap W => callsIn_wide.2 (Try.slices_Sort_int_none p cap W)⟩
end Go.Proofs
namespace Go.Proofs.Ytbmnefdiiibabaa
set_option linter.unusedVariables false
set_option linter.unusedSimpArgs false
open Go.RowKit Go.Maps Go.Sort Go.Shelf Go.Proofs.YtbmnefdiiibabaaW.PrintWords PTruthPlays

set_option maxHeartbeats 1000000 in
/-- slices.Sorted(maps.Keys(m)), the two calls by contract -/
theorem sorted_keys (M nn : Nat) (D0 : DataW Value) (w : World) (hown : w.ownsMap Try.prog 3 heldR M nn D0) (hmax : Maps.size D0 ≤ 1000000) :
    CallsIn Fence.wide 5 Try.prog 29 #[.func (.func 55) #[] #[.pointer (some ⟨w.heap.size, 0, none⟩)]] (w.alloc (.cells #[.map (some M)] 47)) fun e w' => ∃ (v : Value) (ss : List Int), e = .returned v ∧ ss.Perm (intKeys D0) ∧
      w'.ownsRow (w.alloc (.cells #[.map (some M)] 47)).heap.size 3 1 v ss.length ((ss.mergeSort (fun x y => decide (x ≤ y))).map encZ) ∧ (v = .slice none 0 0 ↔ ss = []) ∧ Below (w.alloc (.cells #[.map (some M)] 47)).heap.size (w.alloc (.cells #[.map (some M)] 47)) w' := by
  have hbl := hown.lt
  have hseq : SeqGives Fence.wide 2 Try.prog 55 #[.pointer (some ⟨w.heap.size, 0, none⟩)] encZ (fun ss => ss.Perm (intKeys D0)) (Maps.size D0) (w.alloc (.cells #[.map (some M)] 47)) :=
    AnyZI.keys_gives (ρ := Try.keysA_ren) { Try.keysA with } Fence.wide _ trivial rfl (by omega) w.heap.size M nn D0 _ (by simp) (by simp) (by
      obtain ⟨es, clock, hb, Ft, hs, hD⟩ := hown
      exact ⟨es, clock, (Below.heap_alloc _ _ M hbl).trans hb, Ft, hs, hD⟩)
  exact AnyZI.sorted_in Try.sortedA Fence.wide 5 trivial trivial trivial trivial rfl (by omega) (Try.sortsA _) (enters_of Try.func54 (by kernel_rfl) rfl) 55 #[.pointer (some ⟨w.heap.size, 0, none⟩)] trivial (enters_of Try.func55 (by kernel_rfl) rfl) _ _ (by unfold maxLen; omega) (by omega) _ hseq

/-! ### sorted lists of numbers -/
theorem sorted_eq : ∀ {l m : List Int}, l.Pairwise (· < ·) → m.Pairwise (· ≤ ·) → l.Perm m → m = l
  | [], m, _, _, h => by simpa using h.symm.eq_nil
  | a :: l, [], _, _, h => by simpa using h.eq_nil
  | a :: l, b :: m, hl, hm, h => by
    have ha : a ∈ b :: m := h.mem_iff.1 (List.mem_cons_self)
    have hb : b ∈ a :: l := h.mem_iff.2 (List.mem_cons_self)
    have h1 : b ≤ a := by
      rcases List.mem_cons.1 ha with e | e
      · omega
      · exact (List.pairwise_cons.1 hm).1 a e
    have h2 : a ≤ b := by
      rcases List.mem_cons.1 hb with e | e
      · omega
      · exact Int.le_of_lt ((List.pairwise_cons.1 hl).1 b e)
    have e : b = a := by omega
    subst e
    rw [sorted_eq (List.pairwise_cons.1 hl).2 (List.pairwise_cons.1 hm).2 (List.perm_cons _ |>.1 h)]

theorem mergeSort_perm {ss ks : List Int} (hk : ks.Pairwise (· < ·)) (hp : ss.Perm ks) : ss.mergeSort (fun x y => decide (x ≤ y)) = ks := by
  refine sorted_eq hk ?_ ((hp.symm).trans (List.mergeSort_perm ss _).symm)
  have h := List.pairwise_mergeSort (le := fun x y : Int => decide (x ≤ y)) (by intro a b c; simp; omega) (by intro a b; simp; omega) ss
  exact h.imp (by intro a b hab; simpa using hab)

theorem keys_rows {w : World} {ok : Nat → Prop} : ∀ {l : List (Lit × DataW Value)} {b : List Ent}, F2 (BRow w ok) l b → (l.map fun p => _root_.Go.intOf p.1) = b.map (·.1)
  | [], [], _ => rfl
  | y :: l, x :: b, h => by
    have h1 : _root_.Go.intOf y.1 = x.1 := by rw [h.1.1]; rfl
    simp only [List.map_cons, h1, keys_rows h.2]
  | [], _ :: _, h => h.elim
  | _ :: _, [], h => h.elim

theorem sorted_rows {w : World} {ok : Nat → Prop} {l : List (Lit × DataW Value)} {b : List Ent} (h : F2 (BRow w ok) l b) (hs : l.Pairwise (fun p q => p.1.before q.1 = true)) : (b.map (·.1)).Pairwise (· < ·) := by
  rw [← keys_rows h]
  rw [List.pairwise_map]
  refine List.Pairwise.imp_of_mem ?_ hs
  intro p q hp hq hb
  have key : ∀ {l : List (Lit × DataW Value)} {b : List Ent}, F2 (BRow w ok) l b → ∀ p ∈ l, ∃ n, p.1 = .int .i64 n := by
    intro l
    induction l with
    | nil => intro b _ p hp; cases hp
    | cons y l ih =>
      intro b h p hp
      match b, h with
      | x :: b, h =>
        rcases List.mem_cons.1 hp with e | e
        · exact ⟨x.1, by rw [e]; exact h.1.1⟩
        · exact ih h.2 p e
  obtain ⟨n, hn⟩ := key h p hp
  obtain ⟨m, hm⟩ := key h q hq
  rw [hn, hm] at hb ⊢
  simpa [Lit.before, _root_.Go.intOf] using hb

set_option maxRecDepth 100000 in
set_option maxHeartbeats 1000000 in
theorem facts_any (B M : Nat) (b : List Ent) (w : World) (ok : Nat → Prop) (hB : w.heap[B]? = some (.cells #[.map (some M)] 49 (0, 0))) (hMB : MapB w ok M b) (hlen : b.length < 1000000) :
    Calls Try.prog 8 #[.pointer (some ⟨B, 0, none⟩)] w fun e w' => ∃ v, e = .returned v ∧ w'.ownsRow w.heap.size 3 1 v b.length ((b.map (·.1)).map (Value.int .i64)) ∧ Below w.heap.size w w' := by
  refine (callsIn_wide (n := 6)).1 ?_
  have hc : w.cell? ⟨B, 0, none⟩ = some (.map (some M)) := by rw [cell_blk hB]; rfl
  obtain ⟨l, hown, hF⟩ := hMB.ex
  have hl := hF.len
  have cK : ∀ mb W, CallsIn Fence.wide 5 Try.prog 30 #[.map mb] W fun e w' => e = .returned (.func (.func 55) #[] #[.pointer (some ⟨W.heap.size, 0, none⟩)]) ∧ w' = W.alloc (.cells #[.map mb] 47) := fun mb W => AnyZI.keys_in Try.keysA Fence.wide 5 trivial rfl mb W
  have cS := sorted_keys M b.length (.map l) w hown (by rw [Maps.size_eq]; omega)
  have cN : CallsIn Fence.wide 5 Try.prog 28 #[.pointer (some ⟨B, 0, none⟩)] w fun e w' => e = .returned (.bool false) ∧ w = w' := callsIn_wide.2 (none_any B M w hB)
  have hfK : Fence.wide.fn 30 := trivial
  have hfS : Fence.wide.fn 29 := trivial
  have hfN : Fence.wide.fn 28 := trivial
  have hcan := hown.canon K47
  obtain ⟨es, he, hs, _⟩ := hcan
  injection he with he
  subst he
  have hsort := sorted_rows hF hs
  have hkeys : intKeys (DataW.map l) = b.map (·.1) := keys_rows hF
  have HK := Lib.hid hkeys
  clear hkeys hs hl
  refine callsIn_of_wp Try.func8 rfl trivial ?_ rfl
  simp only [Try.ntmps8, List.size_toArray, List.length_cons, List.length_nil, Nat.reduceAdd, Nat.reduceSub, Array.replicate_succ, Array.replicate_zero, List.push_toArray, List.append_toArray, List.nil_append, List.cons_append]
  gi_wp2_with (first
    | (gi_at_call 28; refine cN.mono ?_; rintro e w' ⟨rfl, rfl⟩)
    | (gi_at_call 30; refine (cK _ _).mono ?_; rintro e w' ⟨rfl, rfl⟩)
    | (gi_at_call 29; refine cS.mono ?_; rintro e w' ⟨v, ss, rfl, hS, hrow, hnil, hb⟩))
  go_ret
  have hss : ss.mergeSort (fun x y => decide (x ≤ y)) = b.map (·.1) := mergeSort_perm hsort (by rw [← HK.out]; exact hS)
  have hlen2 : ss.length = b.length := by rw [HK.out] at hS; rw [hS.length_eq, List.length_map]
  rw [hss, hlen2] at hrow
  exact ⟨v, rfl, ownsRow_base_a hrow (by simp), ((Below.refl _ w).alloc (Nat.le_refl _) _).trans (hb.mono (by simp))⟩
end Go.Proofs.Ytbmnefdiiibabaa
