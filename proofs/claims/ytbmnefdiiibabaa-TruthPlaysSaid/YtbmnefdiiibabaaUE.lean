import Derived.Test.YtbmnefdiiibabaaUC
namespace Go.Proofs.Ytbmnefdiiibabaa
set_option linter.unusedVariables false
set_option linter.unusedSimpArgs false
open Go.RowKit Go.Maps Go.Sort Go.Shelf Go.Proofs.YtbmnefdiiibabaaW.PrintWords Go.Proofs.YtbmnefdiiibabaaW.PrintMore PTruthPlays

/-! ### the book and the document's rows: the plain law -/
def Rel1 (x : Ent) (r : S69) : Prop := x.1 = r.f0 ∧ x.2.1 = r.f1 ∧ x.2.2.Perm r.f2
def jsrt (l : List S33) : Prop := l.Pairwise (fun x y => jcmp x y < 0)
structure Corr (b : List Ent) (rows : List S69) : Prop where
  srt : (rows.map (·.f0)).Pairwise (· < ·)
  rel : F2 Rel1 b rows
  lst : ∀ r ∈ rows, jsrt r.f2

theorem F2.append {α β : Type} {R : α → β → Prop} : ∀ {l l' : List α} {m m' : List β}, F2 R l m → F2 R l' m' → F2 R (l ++ l') (m ++ m')
  | [], _, [], _, _, h => h
  | _ :: _, _, _ :: _, _, h, h' => ⟨h.1, F2.append h.2 h'⟩
  | [], _, _ :: _, _, h, _ => h.elim
  | _ :: _, _, [], _, h, _ => h.elim
theorem F2.split {α β : Type} {R : α → β → Prop} : ∀ {m : List β} {l : List α} {m' : List β}, F2 R l (m ++ m') → ∃ l1 l2, l = l1 ++ l2 ∧ F2 R l1 m ∧ F2 R l2 m'
  | [], l, m', h => ⟨[], l, rfl, trivial, h⟩
  | y :: m, [], m', h => h.elim
  | y :: m, x :: l, m', h => by
    obtain ⟨l1, l2, rfl, h1, h2⟩ := F2.split h.2
    exact ⟨x :: l1, l2, rfl, ⟨h.1, h1⟩, h2⟩
theorem F2.mem {α β : Type} {R : α → β → Prop} : ∀ {l : List α} {m : List β}, F2 R l m → ∀ x ∈ l, ∃ y ∈ m, R x y
  | [], [], _, x, hx => by simp at hx
  | _ :: _, _ :: _, h, x, hx => by
    rcases List.mem_cons.1 hx with e | hx
    · subst e; exact ⟨_, by simp, h.1⟩
    · obtain ⟨y, hy, hr⟩ := F2.mem h.2 x hx; exact ⟨y, by simp [hy], hr⟩
  | [], _ :: _, h, _, _ => h.elim
  | _ :: _, [], h, _, _ => h.elim

/-- where an id stands in rows, or would -/
theorem rows_split : ∀ (rows : List S69) (id : Int), (rows.map (·.f0)).Pairwise (· < ·) →
    (∃ p r s, rows = p ++ r :: s ∧ r.f0 = id ∧ (∀ y ∈ p, y.f0 < id) ∧ ∀ y ∈ s, id < y.f0) ∨ ∃ p s, rows = p ++ s ∧ (∀ y ∈ p, y.f0 < id) ∧ ∀ y ∈ s, id < y.f0
  | [], id, _ => .inr ⟨[], [], rfl, by simp, by simp⟩
  | r :: rows, id, h => by
    rw [List.map_cons, List.pairwise_cons] at h
    obtain ⟨h1, h2⟩ := h
    have h1' : ∀ y ∈ rows, r.f0 < y.f0 := fun y hy => h1 _ (List.mem_map.2 ⟨y, hy, rfl⟩)
    by_cases e : r.f0 = id
    · exact .inl ⟨[], r, rows, rfl, e, by simp, fun y hy => by have := h1' y hy; omega⟩
    · by_cases hlt : r.f0 < id
      · rcases rows_split rows id h2 with ⟨p, r', s, rfl, e', hp, hs⟩ | ⟨p, s, rfl, hp, hs⟩
        · exact .inl ⟨r :: p, r', s, rfl, e', fun y hy => by
            rcases List.mem_cons.1 hy with rfl | hy
            · exact hlt
            · exact hp y hy, hs⟩
        · exact .inr ⟨r :: p, s, rfl, fun y hy => by
            rcases List.mem_cons.1 hy with rfl | hy
            · exact hlt
            · exact hp y hy, hs⟩
      · exact .inr ⟨[], r :: rows, rfl, by simp, fun y hy => by
          rcases List.mem_cons.1 hy with rfl | hy
          · omega
          · have := h1' y hy; omega⟩

theorem rget_mid {p s : List S69} {r : S69} (hp : ∀ y ∈ p, y.f0 < r.f0) : rget (p ++ r :: s) r.f0 = some r := by
  unfold rget
  rw [List.find?_append]
  have h : p.find? (fun x => x.f0 == r.f0) = none := List.find?_eq_none.2 (fun x hx => by have := hp x hx; simp; omega)
  rw [h]; simp
theorem rget_abs {p s : List S69} {id : Int} (hp : ∀ y ∈ p, y.f0 < id) (hs : ∀ y ∈ s, id < y.f0) : rget (p ++ s) id = none := by
  unfold rget
  refine List.find?_eq_none.2 (fun x hx => ?_)
  rcases List.mem_append.1 hx with h | h
  · have := hp x h; simp; omega
  · have := hs x h; simp; omega
theorem rfind_mid {p s : List S69} {r : S69} (hp : ∀ y ∈ p, y.f0 < r.f0) : rfind (p ++ r :: s) r.f0 = (p.length : Int) := by
  unfold rfind
  refine idxP_hit (k := p.length) (by simp) (by simp) (fun j hj => ?_)
  rw [List.getElem_append_left hj]
  have := hp _ (List.getElem_mem hj)
  simp; omega
theorem rfind_abs {p s : List S69} {id : Int} (hp : ∀ y ∈ p, y.f0 < id) (hs : ∀ y ∈ s, id < y.f0) : rfind (p ++ s) id = -1 := by
  unfold rfind
  refine idxP_none (fun j hj => ?_)
  rcases List.mem_append.1 (List.getElem_mem hj) with h | h
  · have := hp _ h; simp; omega
  · have := hs _ h; simp; omega
theorem rpos_abs {p s : List S69} {id : Int} (hp : ∀ y ∈ p, y.f0 < id) (hs : ∀ y ∈ s, id < y.f0) : rpos (p ++ s) id = p.length := by
  unfold rpos
  rw [List.takeWhile_append_of_pos (fun x hx => by have := hp x hx; simpa using this)]
  cases s with
  | nil => simp
  | cons y s =>
    have := hs y (by simp)
    rw [List.takeWhile_cons_of_neg (by simp; omega)]; simp
theorem rins_abs {p s : List S69} {id : Int} (hp : ∀ y ∈ p, y.f0 < id) (hs : ∀ y ∈ s, id < y.f0) : rins (p ++ s) id = p ++ rnew id :: s := by
  unfold rins
  rw [rpos_abs hp hs, List.take_left, List.drop_left]

theorem key_lt {p : List S69} {bp : List Ent} {id : Int} (h : F2 Rel1 bp p) (hp : ∀ y ∈ p, y.f0 < id) : ∀ y ∈ bp, y.1 < id := fun y hy => by
  obtain ⟨r, hr, he⟩ := F2.mem h y hy
  rw [he.1]; exact hp r hr
theorem key_gt {p : List S69} {bp : List Ent} {id : Int} (h : F2 Rel1 bp p) (hp : ∀ y ∈ p, id < y.f0) : ∀ y ∈ bp, id < y.1 := fun y hy => by
  obtain ⟨r, hr, he⟩ := F2.mem h y hy
  rw [he.1]; exact hp r hr
theorem bdel_out {p : List Ent} {id : Int} (hp : ∀ y ∈ p, y.1 ≠ id) : bdel p id = p := by
  unfold bdel
  exact List.filter_eq_self.2 (fun x hx => by simpa using hp x hx)
theorem bdel_app (p s : List Ent) (id : Int) : bdel (p ++ s) id = bdel p id ++ bdel s id := List.filter_append ..
theorem bdel_two {p s : List Ent} {id : Int} (hp : ∀ y ∈ p, y.1 < id) (hs : ∀ y ∈ s, id < y.1) : bdel (p ++ s) id = p ++ s := by
  rw [bdel_app, bdel_out (fun y hy => by have := hp y hy; omega), bdel_out (fun y hy => by have := hs y hy; omega)]
theorem bdel_three {p s : List Ent} {x : Ent} (hp : ∀ y ∈ p, y.1 < x.1) (hs : ∀ y ∈ s, x.1 < y.1) : bdel (p ++ x :: s) x.1 = p ++ s := by
  rw [bdel_app, bdel_out (fun y hy => by have := hp y hy; omega)]
  have : bdel (x :: s) x.1 = s := by
    have h := bdel_out (p := s) (id := x.1) (fun y hy => by have := hs y hy; omega)
    unfold bdel at h ⊢
    simp only [List.filter_cons, beq_self_eq_true, Bool.not_true, Bool.false_eq_true, if_false]
    exact h
  rw [this]
theorem bfind_two {p s : List Ent} {id : Int} (hp : ∀ y ∈ p, y.1 < id) (hs : ∀ y ∈ s, id < y.1) : bfind (p ++ s) id = none := by
  unfold bfind
  have : (p ++ s).find? (fun x => x.1 == id) = none := List.find?_eq_none.2 (fun x hx => by
    rcases List.mem_append.1 hx with h | h
    · have := hp x h; simp; omega
    · have := hs x h; simp; omega)
  rw [this]; rfl
theorem bfind_three {p s : List Ent} {x : Ent} (hp : ∀ y ∈ p, y.1 < x.1) : bfind (p ++ x :: s) x.1 = some x.2 := by
  unfold bfind
  rw [List.find?_append]
  have h : p.find? (fun y => y.1 == x.1) = none := List.find?_eq_none.2 (fun y hy => by have := hp y hy; simp; omega)
  rw [h]; simp

/-- an id in a book and in its rows -/
theorem Corr.cases {b : List Ent} {rows : List S69} (h : Corr b rows) (id : Int) :
    (∃ p r s bp bx bs, rows = p ++ r :: s ∧ b = bp ++ bx :: bs ∧ r.f0 = id ∧ bx.1 = id ∧ Rel1 bx r ∧ F2 Rel1 bp p ∧ F2 Rel1 bs s ∧ (∀ y ∈ p, y.f0 < id) ∧ (∀ y ∈ s, id < y.f0) ∧ (∀ y ∈ bp, y.1 < id) ∧ (∀ y ∈ bs, id < y.1)) ∨
    ∃ p s bp bs, rows = p ++ s ∧ b = bp ++ bs ∧ F2 Rel1 bp p ∧ F2 Rel1 bs s ∧ (∀ y ∈ p, y.f0 < id) ∧ (∀ y ∈ s, id < y.f0) ∧ (∀ y ∈ bp, y.1 < id) ∧ (∀ y ∈ bs, id < y.1) := by
  obtain ⟨hs, hr, hl⟩ := h
  rcases rows_split rows id hs with ⟨p, r, s, rfl, e, hp, hq⟩ | ⟨p, s, rfl, hp, hq⟩
  · obtain ⟨bp, bq, rfl, h1, h2⟩ := F2.split hr
    cases bq with
    | nil => exact h2.elim
    | cons bx bs =>
      exact .inl ⟨p, r, s, bp, bx, bs, rfl, rfl, e, by rw [h2.1.1]; exact e, h2.1, h1, h2.2, hp, hq, key_lt h1 hp, key_gt h2.2 hq⟩
  · obtain ⟨bp, bs, rfl, h1, h2⟩ := F2.split hr
    exact .inr ⟨p, s, bp, bs, rfl, rfl, h1, h2, hp, hq, key_lt h1 hp, key_gt h2 hq⟩

theorem srt_mid {p s : List S69} {r : S69} (hp : ∀ y ∈ p, y.f0 < r.f0) (hs : ∀ y ∈ s, r.f0 < y.f0) (h1 : (p.map (·.f0)).Pairwise (· < ·)) (h2 : (s.map (·.f0)).Pairwise (· < ·)) : ((p ++ r :: s).map (·.f0)).Pairwise (· < ·) := by
  rw [List.map_append, List.map_cons, List.pairwise_append]
  refine ⟨h1, List.pairwise_cons.2 ⟨fun y hy => ?_, h2⟩, fun x hx y hy => ?_⟩
  · obtain ⟨z, hz, rfl⟩ := List.mem_map.1 hy
    exact hs z hz
  · obtain ⟨z, hz, rfl⟩ := List.mem_map.1 hx
    have hzr := hp z hz
    rcases List.mem_cons.1 hy with rfl | hy
    · exact hzr
    · obtain ⟨u, hu, rfl⟩ := List.mem_map.1 hy
      have := hs u hu
      omega
theorem srt_parts {p s : List S69} (h : ((p ++ s).map (·.f0)).Pairwise (· < ·)) : (p.map (·.f0)).Pairwise (· < ·) ∧ (s.map (·.f0)).Pairwise (· < ·) := by
  rw [List.map_append, List.pairwise_append] at h
  exact ⟨h.1, h.2.1⟩

theorem Corr.facts {b : List Ent} {rows : List S69} (h : Corr b rows) : b.map (·.1) = rows.map (·.f0) := by
  obtain ⟨hs, hr, hl⟩ := h
  clear hs hl
  induction rows generalizing b with
  | nil => cases b with
    | nil => rfl
    | cons x b => exact hr.elim
  | cons r rows ih => cases b with
    | nil => exact hr.elim
    | cons x b => rw [List.map_cons, List.map_cons, hr.1.1, ih hr.2]

/-- what a fact's row says -/
theorem Corr.get {b : List Ent} {rows : List S69} (h : Corr b rows) (id : Int) : (bget b id).1 = rplainOf rows id ∧ (bget b id).2.Perm (rlistOf rows id) ∧ jsrt (rlistOf rows id) ∧ (bfind b id).isSome = (rget rows id).isSome := by
  rcases h.cases id with ⟨p, r, s, bp, bx, bs, rfl, rfl, e1, e2, hR, h1, h2, hp, hs, hbp, hbs⟩ | ⟨p, s, bp, bs, rfl, rfl, h1, h2, hp, hs, hbp, hbs⟩
  · have hg : rget (p ++ r :: s) id = some r := by rw [← e1]; exact rget_mid (fun y hy => by rw [e1]; exact hp y hy)
    have hb : bfind (bp ++ bx :: bs) id = some bx.2 := by rw [← e2]; exact bfind_three (fun y hy => by rw [e2]; exact hbp y hy)
    unfold bget rplainOf rlistOf
    rw [hg, hb]
    exact ⟨hR.2.1, hR.2.2, h.lst r (by simp), rfl⟩
  · unfold bget rplainOf rlistOf
    rw [rget_abs hp hs, bfind_two hbp hbs]
    exact ⟨rfl, List.Perm.refl _, List.Pairwise.nil, rfl⟩

/-- two lists in order, of the same ones -/
theorem jsrt_unique : ∀ {l m : List S33}, l.Perm m → l.Pairwise (fun x y => ¬ jcmp y x < 0) → jsrt m → l = m
  | [], m, hp, _, _ => by rw [List.nil_perm.1 hp]
  | x :: l, [], hp, _, _ => by simp at hp
  | x :: l, y :: m, hp, hl, hm => by
    obtain ⟨hl1, hl2⟩ := List.pairwise_cons.1 hl
    obtain ⟨hm1, hm2⟩ := List.pairwise_cons.1 hm
    have e : x = y := by
      have hx : x ∈ y :: m := hp.subset (by simp)
      have hy : y ∈ x :: l := hp.symm.subset (by simp)
      rcases List.mem_cons.1 hx with h | hx
      · exact h
      · rcases List.mem_cons.1 hy with h | hy
        · exact h.symm
        · exact absurd (hm1 x hx) (hl1 y hy)
    subst e
    rw [jsrt_unique (List.Perm.cons_inv hp) hl2 hm2]
theorem Corr.of {b : List Ent} {rows : List S69} (h : Corr b rows) {id : Int} {ys : List S33} (hp : ys.Perm (bget b id).2) (hs : ys.Pairwise (fun x y => ¬ jcmp y x < 0)) : ys = rlistOf rows id :=
  jsrt_unique (hp.trans (h.get id).2.1) hs (h.get id).2.2.1

/-- one row is put -/
theorem Corr.put {b : List Ent} {rows : List S69} (h : Corr b rows) {id : Int} {rows' : List S69} {k : Nat} (hr : RowIs rows id rows' k) :
    ∃ hk : k < rows'.length, rows'[k].f0 = id ∧ (bget b id).1 = rows'[k].f1 ∧ (bget b id).2.Perm rows'[k].f2 ∧ jsrt rows'[k].f2 ∧ (rows'[k].f2 = [] ∨ rows'[k] ∈ rows) ∧
      ∀ (v : Bool × List S33) (r2 : S69), r2.f0 = id → v.1 = r2.f1 → v.2.Perm r2.f2 → jsrt r2.f2 → Corr (bput b id v) (rows'.set k r2) := by
  have hsrt := h.srt
  rcases h.cases id with ⟨p, r, s, bp, bx, bs, rfl, rfl, e1, e2, hR, h1, h2, hp, hs, hbp, hbs⟩ | ⟨p, s, bp, bs, rfl, rfl, h1, h2, hp, hs, hbp, hbs⟩
  · have hf : rfind (p ++ r :: s) id = (p.length : Int) := by rw [← e1]; exact rfind_mid (fun y hy => by rw [e1]; exact hp y hy)
    rcases hr with ⟨_, rfl, hk⟩ | ⟨hn, _, _⟩
    · have hk' : k = p.length := by omega
      subst hk'
      have hk2 : p.length < (p ++ r :: s).length := by simp
      have hat : (p ++ r :: s)[p.length]'hk2 = r := by simp
      have hb : bget (bp ++ bx :: bs) id = bx.2 := by
        unfold bget
        rw [← e2, bfind_three (fun y hy => by rw [e2]; exact hbp y hy)]; rfl
      refine ⟨hk2, by rw [hat, e1], by rw [hat, hb]; exact hR.2.1, by rw [hat, hb]; exact hR.2.2, by rw [hat]; exact h.lst r (by simp), .inr (by rw [hat]; simp), fun v r2 he hv1 hv2 hj => ?_⟩
      have hput : bput (bp ++ bx :: bs) id v = bp ++ (id, v) :: bs := by
        unfold bput
        rw [show bdel (bp ++ bx :: bs) id = bp ++ bs by rw [← e2]; exact bdel_three (fun y hy => by rw [e2]; exact hbp y hy) (fun y hy => by rw [e2]; exact hbs y hy)]
        exact insE_mid hbp hbs
      have hset : (p ++ r :: s).set p.length r2 = p ++ r2 :: s := by
        rw [List.set_append_right _ _ (Nat.le_refl _)]; simp
      rw [hput, hset]
      obtain ⟨q1, q2⟩ := srt_parts hsrt
      rw [List.map_cons, List.pairwise_cons] at q2
      refine ⟨srt_mid (fun y hy => by rw [he]; exact hp y hy) (fun y hy => by rw [he]; exact hs y hy) q1 q2.2, F2.append h1 ⟨⟨he.symm, hv1, hv2⟩, h2⟩, fun x hx => ?_⟩
      rcases List.mem_append.1 hx with hx | hx
      · exact h.lst x (by simp [hx])
      · rcases List.mem_cons.1 hx with rfl | hx
        · exact hj
        · exact h.lst x (by simp [hx])
    · omega
  · have hf : rfind (p ++ s) id = -1 := rfind_abs hp hs
    rcases hr with ⟨h0, _, _⟩ | ⟨_, rfl, rfl⟩
    · omega
    · rw [rpos_abs hp hs, rins_abs hp hs]
      have hk2 : p.length < (p ++ rnew id :: s).length := by simp
      have hat : (p ++ rnew id :: s)[p.length]'hk2 = rnew id := by simp
      have hb : bget (bp ++ bs) id = (false, []) := by
        unfold bget
        rw [bfind_two hbp hbs]; rfl
      refine ⟨hk2, by rw [hat]; rfl, by rw [hat, hb]; rfl, by rw [hat, hb]; exact List.Perm.refl _, by rw [hat]; exact List.Pairwise.nil, .inl (by rw [hat]; rfl), fun v r2 he hv1 hv2 hj => ?_⟩
      have hput : bput (bp ++ bs) id v = bp ++ (id, v) :: bs := by
        unfold bput
        rw [bdel_two hbp hbs]
        exact insE_mid hbp hbs
      have hset : (p ++ rnew id :: s).set p.length r2 = p ++ r2 :: s := by
        rw [List.set_append_right _ _ (Nat.le_refl _)]; simp
      rw [hput, hset]
      obtain ⟨q1, q2⟩ := srt_parts hsrt
      refine ⟨srt_mid (fun y hy => by rw [he]; exact hp y hy) (fun y hy => by rw [he]; exact hs y hy) q1 q2, F2.append h1 ⟨⟨he.symm, hv1, hv2⟩, h2⟩, fun x hx => ?_⟩
      rcases List.mem_append.1 hx with hx | hx
      · exact h.lst x (by simp [hx])
      · rcases List.mem_cons.1 hx with rfl | hx
        · exact hj
        · exact h.lst x (by simp [hx])

/-- Plain -/
theorem Corr.plain {b : List Ent} {rows : List S69} (h : Corr b rows) {id : Int} {rows' : List S69} {k : Nat} (hr : RowIs rows id rows' k) (hk : k < rows'.length) :
    Corr (bput b id (true, (bget b id).2)) (rows'.set k ⟨rows'[k].f0, true, rows'[k].f2⟩) := by
  obtain ⟨hk, e1, e2, e3, e4, _, hput⟩ := h.put hr
  exact hput _ _ e1 rfl e3 e4

/-- Withdraw -/
theorem Corr.withdraw {b : List Ent} {rows : List S69} (h : Corr b rows) (j : S33) : Corr (bwd b j) (rwd rows j) ∧ bout b j = rout rows j := by
  obtain ⟨hs, hr, hl⟩ := h
  refine ⟨⟨?_, ?_, ?_⟩, ?_⟩
  · have : (rwd rows j).map (·.f0) = rows.map (·.f0) := by unfold rwd; rw [List.map_map]; rfl
    rw [this]; exact hs
  · clear hs hl
    induction rows generalizing b with
    | nil => cases b with
      | nil => trivial
      | cons x b => exact hr.elim
    | cons r rows ih => cases b with
      | nil => exact hr.elim
      | cons x b => exact ⟨⟨hr.1.1, hr.1.2.1, hr.1.2.2.filter _⟩, ih hr.2⟩
  · intro r hr2
    obtain ⟨r0, h0, rfl⟩ := List.mem_map.1 hr2
    exact (hl r0 h0).filter _
  · clear hs hl
    induction rows generalizing b with
    | nil => cases b with
      | nil => rfl
      | cons x b => exact hr.elim
    | cons r rows ih => cases b with
      | nil => exact hr.elim
      | cons x b =>
        have he : whit j x = rhit j r := by
          unfold whit rhit
          rw [Bool.eq_iff_iff, List.any_eq_true, List.any_eq_true]
          exact ⟨fun ⟨y, hy, hq⟩ => ⟨y, hr.1.2.2.subset hy, hq⟩, fun ⟨y, hy, hq⟩ => ⟨y, hr.1.2.2.symm.subset hy, hq⟩⟩
        have := ih hr.2
        unfold bout rout at this ⊢
        rw [List.filter_cons, List.filter_cons, he]
        split
        · rw [List.map_cons, List.map_cons, this, hr.1.1]
        · exact this

/-- Drop -/
theorem Corr.drop {b : List Ent} {rows : List S69} (h : Corr b rows) (id : Int) :
    (rfind rows id = -1 ∧ (bfind b id).isSome = false ∧ bdel b id = b) ∨ ∃ k : Nat, rfind rows id = k ∧ (bfind b id).isSome = true ∧ Corr (bdel b id) (rows.take k ++ rows.drop (k + 1)) := by
  have hsrt := h.srt
  rcases h.cases id with ⟨p, r, s, bp, bx, bs, rfl, rfl, e1, e2, hR, h1, h2, hp, hs, hbp, hbs⟩ | ⟨p, s, bp, bs, rfl, rfl, h1, h2, hp, hs, hbp, hbs⟩
  · right
    refine ⟨p.length, by rw [← e1]; exact rfind_mid (fun y hy => by rw [e1]; exact hp y hy), by rw [← e2, bfind_three (fun y hy => by rw [e2]; exact hbp y hy)]; rfl, ?_⟩
    rw [show bdel (bp ++ bx :: bs) id = bp ++ bs by rw [← e2]; exact bdel_three (fun y hy => by rw [e2]; exact hbp y hy) (fun y hy => by rw [e2]; exact hbs y hy)]
    have : (p ++ r :: s).take p.length ++ (p ++ r :: s).drop (p.length + 1) = p ++ s := by simp [List.drop_append]
    rw [this]
    rw [List.map_append, List.map_cons] at hsrt
    refine ⟨?_, F2.append h1 h2, fun x hx => ?_⟩
    · rw [List.map_append]
      exact hsrt.sublist (List.Sublist.append (List.Sublist.refl _) (List.sublist_cons_self _ _))
    · rcases List.mem_append.1 hx with hx | hx
      · exact h.lst x (by simp [hx])
      · exact h.lst x (by simp [hx])
  · exact .inl ⟨rfind_abs hp hs, by rw [bfind_two hbp hbs]; rfl, bdel_two hbp hbs⟩

/-- Justify -/
def jless (x j : S33) : Bool := decide (jcmp x j < 0)
def jat (l : List S33) (j : S33) : Nat → Nat
  | 0 => 0
  | k + 1 => if (l[k]?.map (fun x => jless x j)).getD false then k + 1 else jat l j k
theorem jat_le (l : List S33) (j : S33) : ∀ k, jat l j k ≤ k
  | 0 => Nat.le_refl _
  | k + 1 => by unfold jat; split; exact Nat.le_refl _; have := jat_le l j k; omega
def jins (l : List S33) (j : S33) : List S33 := l.take (jat l j l.length) ++ j :: l.drop (jat l j l.length)
theorem jat_before {l : List S33} {j : S33} (hs : jsrt l) : ∀ k, ∀ i (hi : i < l.length), i < jat l j k → jcmp l[i] j < 0
  | 0, i, hi, h => by simp [jat] at h
  | k + 1, i, hi, h => by
    unfold jat at h
    split at h
    · rename_i hc
      have hk : k < l.length := by
        rcases Nat.lt_or_ge k l.length with h | h
        · exact h
        · rw [List.getElem?_eq_none h] at hc; simp at hc
      rw [List.getElem?_eq_getElem hk] at hc
      have hk2 : jcmp l[k] j < 0 := by simpa [jless] using hc
      by_cases e : i = k
      · subst e; exact hk2
      · exact jcmp_trans _ _ _ (List.pairwise_iff_getElem.1 hs i k hi hk (by omega)) hk2
    · exact jat_before hs k i hi h
theorem jat_behind {l : List S33} {j : S33} : ∀ k, ∀ i (hi : i < l.length), i < k → jat l j k ≤ i → ¬ jcmp l[i] j < 0
  | 0, i, hi, h, _ => by omega
  | k + 1, i, hi, h, h2 => by
    unfold jat at h2
    split at h2
    · omega
    · rename_i hc
      by_cases e : i = k
      · subst e
        rw [List.getElem?_eq_getElem hi] at hc
        simpa [jless] using hc
      · exact jat_behind k i hi (by omega) h2
theorem jins_perm (l : List S33) (j : S33) : (l ++ [j]).Perm (jins l j) := by
  unfold jins
  have h1 : (l ++ [j]).Perm (j :: l) := List.perm_append_singleton j l
  have h2 : (j :: (l.take (jat l j l.length) ++ l.drop (jat l j l.length))).Perm (l.take (jat l j l.length) ++ j :: l.drop (jat l j l.length)) := List.perm_middle.symm
  rw [List.take_append_drop] at h2
  exact h1.trans h2
theorem jins_srt {l : List S33} {j : S33} (hs : jsrt l) (hn : j ∉ l) : jsrt (jins l j) := by
  unfold jins jsrt
  rw [List.pairwise_append]
  have hall := List.take_append_drop (jat l j l.length) l
  have hb : ∀ x ∈ l.take (jat l j l.length), jcmp x j < 0 := fun x hx => by
    obtain ⟨i, hi, rfl⟩ := List.getElem_of_mem hx
    rw [List.length_take] at hi
    rw [List.getElem_take]
    exact jat_before hs l.length i (by omega) (by omega)
  have ha : ∀ x ∈ l.drop (jat l j l.length), jcmp j x < 0 := fun x hx => by
    obtain ⟨i, hi, rfl⟩ := List.getElem_of_mem hx
    rw [List.length_drop] at hi
    rw [List.getElem_drop]
    have h1 := jat_behind (l := l) (j := j) l.length (jat l j l.length + i) (by omega) (by omega) (by omega)
    by_cases h2 : jcmp j l[jat l j l.length + i] < 0
    · exact h2
    · have := jcmp_total _ _ h1 h2
      exact absurd (show j ∈ l by
        have e : l[jat l j l.length + i] = j := by
          cases h : l[jat l j l.length + i]; cases j; rw [h] at this; simp at this; rw [this.1, this.2]
        rw [← e]; exact List.getElem_mem _) hn
  have hs1 : (l.take (jat l j l.length)).Pairwise (fun x y => jcmp x y < 0) := hs.sublist (List.take_sublist _ _)
  have hs2 : (l.drop (jat l j l.length)).Pairwise (fun x y => jcmp x y < 0) := hs.sublist (List.drop_sublist _ _)
  refine ⟨hs1, List.pairwise_cons.2 ⟨ha, hs2⟩, fun x hx y hy => ?_⟩
  rcases List.mem_cons.1 hy with rfl | hy
  · exact hb x hx
  · exact jcmp_trans _ _ _ (hb x hx) (ha y hy)
theorem any_jeq {l : List S33} {j : S33} : l.any (fun x => jeq x j) = true ↔ j ∈ l := by
  rw [List.any_eq_true]
  exact ⟨fun ⟨x, hx, h⟩ => by rw [jeq_iff] at h; subst h; exact hx, fun h => ⟨j, h, by rw [jeq_iff]⟩⟩
theorem Corr.justify {b : List Ent} {rows : List S69} (h : Corr b rows) {id : Int} {rows' : List S69} {k : Nat} (hr : RowIs rows id rows' k) (hk : k < rows'.length) (j : S33) :
    (bget b id).2.any (fun x => jeq x j) = rows'[k].f2.any (fun x => jeq x j) ∧
    (rows'[k].f2.any (fun x => jeq x j) = true → Corr (bput b id (bget b id)) rows') ∧
    (rows'[k].f2.any (fun x => jeq x j) = false → Corr (bput b id ((bget b id).1, (bget b id).2 ++ [j])) (rows'.set k ⟨rows'[k].f0, rows'[k].f1, jins rows'[k].f2 j⟩)) := by
  obtain ⟨hk, e1, e2, e3, e4, _, hput⟩ := h.put hr
  refine ⟨?_, fun hy => ?_, fun hn => ?_⟩
  · rw [Bool.eq_iff_iff, List.any_eq_true, List.any_eq_true]
    exact ⟨fun ⟨y, hy, hq⟩ => ⟨y, e3.subset hy, hq⟩, fun ⟨y, hy, hq⟩ => ⟨y, e3.symm.subset hy, hq⟩⟩
  · have := hput (bget b id) rows'[k] e1 e2 e3 e4
    rwa [List.set_getElem_self] at this
  · have hnm : j ∉ rows'[k].f2 := fun hm => by rw [any_jeq.2 hm] at hn; cases hn
    exact hput _ _ e1 e2 ((e3.append (List.Perm.refl [j])).trans (jins_perm _ _)) (jins_srt e4 hnm)

/-! ### the lost -/
def closedS (rows : List S69) (S : Int → Prop) : Prop := ∀ r ∈ rows, (r.f1 = true ∨ ∃ y ∈ r.f2, ∀ x ∈ y.f1, S x) → S r.f0
/-- a set that is the least -/
structure Least (rows : List S69) (s : Int → Prop) : Prop where
  clo : closedS rows s
  min : ∀ S, closedS rows S → ∀ x, s x → S x
theorem Least.unique {rows : List S69} {s t : Int → Prop} (h : Least rows s) (h' : Least rows t) (x : Int) : s x ↔ t x := ⟨h.min t h'.clo x, h'.min s h.clo x⟩
theorem heldE_iff (s : Int → Bool) (x : Bool × List S33) : heldE s x = true ↔ x.1 = true ∨ ∃ y ∈ x.2, ∀ z ∈ y.f1, s z = true := by
  unfold heldE allIn
  rw [Bool.or_eq_true, List.any_eq_true]
  simp only [List.all_eq_true]
theorem held_row {b : List Ent} {rows : List S69} (h : Corr b rows) (s : Int → Bool) {r : S69} (hr : r ∈ rows) : heldE s (bget b r.f0) = true ↔ r.f1 = true ∨ ∃ y ∈ r.f2, ∀ z ∈ y.f1, s z = true := by
  have hg := h.get r.f0
  have hget : rget rows r.f0 = some r := by
    rcases rows_split rows r.f0 h.srt with ⟨p, r', s', rfl, e, hp, hs⟩ | ⟨p, s', rfl, hp, hs⟩
    · have : r' = r := by
        rcases List.mem_append.1 hr with hr | hr
        · have := hp r hr; omega
        · rcases List.mem_cons.1 hr with rfl | hr
          · rfl
          · have := hs r hr; omega
      subst this
      exact rget_mid hp
    · rcases List.mem_append.1 hr with hr | hr
      · have := hp r hr; omega
      · have := hs r hr; omega
  rw [heldE_iff, hg.1]
  have h1 : rplainOf rows r.f0 = r.f1 := by unfold rplainOf; rw [hget]; rfl
  have h2 : rlistOf rows r.f0 = r.f2 := by unfold rlistOf; rw [hget]; rfl
  have hperm := hg.2.1
  rw [h1]
  rw [h2] at hperm
  constructor
  · rintro (h | ⟨y, hy, hz⟩)
    · exact .inl h
    · exact .inr ⟨y, hperm.subset hy, hz⟩
  · rintro (h | ⟨y, hy, hz⟩)
    · exact .inl h
    · exact .inr ⟨y, hperm.symm.subset hy, hz⟩
theorem lostL_spec {b : List Ent} {rows : List S69} (h : Corr b rows) : ∀ (n : Nat) (s : Int → Bool) (left : List Int), left.length ≤ n →
    (∀ S, closedS rows S → ∀ x, s x = true → S x) → (left = (rows.map (·.f0)).filter (fun x => !s x)) →
    ∃ t : Int → Bool, Least rows (fun x => t x = true) ∧ lostL b s left = (rows.map (·.f0)).filter (fun x => !t x) := by
  intro n
  induction n with
  | zero =>
    intro s left hl hmin he
    have e : left = [] := List.eq_nil_of_length_eq_zero (by omega)
    subst e
    refine ⟨s, ⟨fun r hr _ => ?_, hmin⟩, by rw [lostL_end rfl, ← he]⟩
    have hnot : ¬ (r.f0 ∈ (rows.map (·.f0)).filter (fun x => !s x)) := by rw [← he]; simp
    rw [List.mem_filter] at hnot
    have hm : r.f0 ∈ rows.map (·.f0) := List.mem_map.2 ⟨r, hr, rfl⟩
    cases hs : s r.f0 with
    | true => rfl
    | false => exact absurd ⟨hm, by simp [hs]⟩ hnot
  | succ n ih =>
    intro s left hl hmin he
    by_cases hend : (lostRest b s left).length = left.length
    · refine ⟨s, ⟨fun r hr hheld => ?_, hmin⟩, by rw [lostL_end hend, ← he]⟩
      cases hs : s r.f0 with
      | true => rfl
      | false =>
        exfalso
        have hm : r.f0 ∈ left := by rw [he, List.mem_filter]; exact ⟨List.mem_map.2 ⟨r, hr, rfl⟩, by simp [hs]⟩
        unfold lostRest at hend
        have := List.length_filter_eq_length_iff.1 hend r.f0 hm
        rw [Bool.not_eq_true', ← Bool.not_eq_true] at this
        exact this ((held_row h s hr).2 hheld)
    · rw [lostL_next hend]
      have hle := lostRest_le b s left
      refine ih _ _ (by omega) (fun S hS x hx => ?_) ?_
      · unfold lostSet at hx
        rw [Bool.or_eq_true] at hx
        rcases hx with hx | hx
        · exact hmin S hS x hx
        · rw [Bool.and_eq_true, List.contains_iff_mem, Bool.not_eq_true', ← Bool.not_eq_true, List.contains_iff_mem] at hx
          obtain ⟨h1, h2⟩ := hx
          have hh : heldE s (bget b x) = true := by
            cases hc : heldE s (bget b x) with
            | true => rfl
            | false => exact absurd (by unfold lostRest; rw [List.mem_filter]; exact ⟨h1, by simp [hc]⟩) h2
          rw [he, List.mem_filter] at h1
          obtain ⟨r, hr, rfl⟩ := List.mem_map.1 h1.1
          refine hS r hr ?_
          rcases (held_row h s hr).1 hh with h | ⟨y, hy, hz⟩
          · exact .inl h
          · exact .inr ⟨y, hy, fun z hz' => hmin S hS z (hz z hz')⟩
      · have hR : ∀ x, (lostRest b s left).contains x = (left.contains x && !heldE s (bget b x)) := fun x => by
          unfold lostRest
          rw [Bool.eq_iff_iff, List.contains_iff_mem, List.mem_filter, Bool.and_eq_true, List.contains_iff_mem]
        have hL : lostRest b s left = ((rows.map (·.f0)).filter (fun x => !heldE s (bget b x) && !s x)) := by
          unfold lostRest
          rw [he, List.filter_filter]
        conv => lhs; rw [hL]
        refine List.filter_congr (fun x hx => ?_)
        unfold lostSet
        rw [hR]
        rw [Bool.eq_iff_iff]
        cases hs : s x with
        | true => simp
        | false =>
          have hm : left.contains x = true := by rw [he, List.contains_iff_mem, List.mem_filter]; exact ⟨hx, by simp [hs]⟩
          rw [hm]
          cases hc : heldE s (bget b x) <;> simp
theorem Corr.lost {b : List Ent} {rows : List S69} (h : Corr b rows) {t : Int → Bool} (ht : Least rows (fun x => t x = true)) : lostL b (fun _ => false) (b.map (·.1)) = (rows.map (·.f0)).filter (fun x => !t x) := by
  obtain ⟨u, hu, he⟩ := lostL_spec h _ (fun _ => false) (b.map (·.1)) (Nat.le_refl _) (fun _ _ _ h => by cases h) (by rw [h.facts]; exact (List.filter_eq_self.2 (fun _ _ => rfl)).symm)
  rw [he]
  refine List.filter_congr (fun x _ => ?_)
  have := hu.unique ht x
  rw [Bool.eq_iff_iff]
  simp only [Bool.not_eq_true', ← Bool.not_eq_true]
  exact not_congr this
theorem Corr.nil : Corr [] [] := ⟨List.Pairwise.nil, trivial, by simp⟩
end Go.Proofs.Ytbmnefdiiibabaa
