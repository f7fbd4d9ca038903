/- The document's queue on plain lists, and how the program's items hang together with it. -/
import Derived.Test.YtmifpookhhkgeaaDoorQP
set_option linter.unusedVariables false
set_option linter.unusedSimpArgs false
namespace Go.Proofs.YtmifpookhhkgeaaDoor.Q
open Go.RowKit Go.Lib Go.Proofs.YtmifpookhhkgeaaDoorW.PrintWords Go.Proofs.YtmifpookhhkgeaaDoor.P Go.Proofs.YtmifpookhhkgeaaDoor.G
/-- An item, in its place. -/
def putQ : List S47 → S47 → List S47
  | [], x => [x]
  | y :: t, x => if ltQ y x then y :: putQ t x else x :: y :: t
def noK (e : S27) (x : S47) : Bool := decide (x.f0.f0 ≠ e.f0)
def badK (e : S27) (x : S47) : Bool := decide (x.f0.f0 = e.f0) && !aboveB e x.f0
def refPush (L : List S47) (came lost : Int) (e : S27) : List S47 × Int × Int × Bool :=
  if checkC e = 0 then (if L.any (badK e) then (L, came, lost, false) else if 32 < (putQ (L.filter (noK e)) ⟨e, 0, came⟩).length then ((putQ (L.filter (noK e)) ⟨e, 0, came⟩).take 32, came + 1, lost + 1, true) else (putQ (L.filter (noK e)) ⟨e, 0, came⟩, came + 1, lost, true)) else (L, came, lost, false)
def refTake (L : List S47) (room limit : Int) : List S47 := (takeL L room limit).2.foldl putQ []
theorem putQ_perm : ∀ (l : List S47) (x : S47), (putQ l x).Perm (x :: l)
  | [], x => List.Perm.refl _
  | y :: t, x => by
    unfold putQ
    split
    · exact ((putQ_perm t x).cons y).trans (List.Perm.swap x y t)
    · exact List.Perm.refl _
theorem putQ_len (l : List S47) (x : S47) : (putQ l x).length = l.length + 1 := (putQ_perm l x).length_eq
def SSort (l : List S47) : Prop := l.Pairwise fun x y => ltQ x y = true
theorem ltQ_iff (x y : S47) : ltQ x y = true ↔ x.f1 < y.f1 ∨ (x.f1 = y.f1 ∧ y.f2 < x.f2) := by simp [ltQ]
theorem ltQ_not (x y : S47) : ltQ x y = false ↔ ¬ (x.f1 < y.f1 ∨ (x.f1 = y.f1 ∧ y.f2 < x.f2)) := by rw [← ltQ_iff]; simp
theorem putQ_sort : ∀ (l : List S47) (x : S47), SSort l → (∀ y ∈ l, y.f2 ≠ x.f2) → SSort (putQ l x)
  | [], x, _, _ => by simp [putQ, SSort]
  | y :: t, x, h, hx => by
    unfold SSort at h
    rw [List.pairwise_cons] at h
    have hyx := hx y (by simp)
    unfold putQ
    by_cases hlt : ltQ y x = true
    · rw [if_pos hlt]
      have ih := putQ_sort t x h.2 (fun z hz => hx z (List.mem_cons_of_mem _ hz))
      unfold SSort at ih ⊢
      rw [List.pairwise_cons]
      refine ⟨fun z hz => ?_, ih⟩
      rcases List.mem_cons.1 ((putQ_perm t x).mem_iff.1 hz) with rfl | hz
      · exact hlt
      · exact h.1 z hz
    · rw [if_neg hlt]
      have hxy : ltQ x y = true := by rw [ltQ_iff] at hlt ⊢; omega
      unfold SSort
      rw [List.pairwise_cons, List.pairwise_cons]
      refine ⟨fun z hz => ?_, h⟩
      rcases List.mem_cons.1 hz with rfl | hz
      · exact hxy
      · have hyz := h.1 z hz
        rw [ltQ_iff] at hxy hyz ⊢
        omega
theorem mem_inj {l : List S47} (h : (l.map (·.f2)).Nodup) {x y : S47} (hx : x ∈ l) (hy : y ∈ l) (he : x.f2 = y.f2) : x = y := by
  induction l with
  | nil => cases hx
  | cons a t ih =>
    rw [List.map_cons, List.nodup_cons] at h
    rcases List.mem_cons.1 hx with e1 | h1 <;> rcases List.mem_cons.1 hy with e2 | h2
    · exact e1.trans e2.symm
    · exact absurd (List.mem_map.2 ⟨y, h2, by rw [← e1]; exact he.symm⟩) h.1
    · exact absurd (List.mem_map.2 ⟨x, h1, by rw [← e2]; exact he⟩) h.1
    · exact ih h.2 h1 h2
theorem key_inj {l : List S47} (h : (l.map (·.f0.f0)).Nodup) {x y : S47} (hx : x ∈ l) (hy : y ∈ l) (he : x.f0.f0 = y.f0.f0) : x = y := by
  induction l with
  | nil => cases hx
  | cons a t ih =>
    rw [List.map_cons, List.nodup_cons] at h
    rcases List.mem_cons.1 hx with e1 | h1 <;> rcases List.mem_cons.1 hy with e2 | h2
    · exact e1.trans e2.symm
    · exact absurd (List.mem_map.2 ⟨y, h2, by rw [← e1]; exact he.symm⟩) h.1
    · exact absurd (List.mem_map.2 ⟨x, h1, by rw [← e2]; exact he⟩) h.1
    · exact ih h.2 h1 h2
theorem uniq {l L : List S47} (hp : l.Perm L) (hs : SortedQ l) (hS : SSort L) (hn : (L.map (·.f2)).Nodup) : l = L := by
  refine List.Perm.eq_of_pairwise (le := fun x y => ltQ y x = false) (fun a b ha hb h1 h2 => ?_) hs (hS.imp (fun {a b} h => ?_)) hp
  · refine mem_inj hn (hp.mem_iff.1 ha) hb ?_
    rw [ltQ_not] at h1 h2
    omega
  · rw [ltQ_iff] at h
    rw [ltQ_not]
    omega
/-- How the program's items (l), the document's (L) and the numbers hang together; no more than N calls. -/
structure Inv (l L : List S47) (came lost : Int) (N : Nat) : Prop where
  perm : l.Perm L
  sort : SSort L
  keys : (L.map (·.f0.f0)).Nodup
  seqs : (L.map (·.f2)).Nodup
  vals : ∀ x ∈ L, checkC x.f0 = 0 ∧ 0 ≤ x.f1 ∧ x.f1 ≤ N ∧ 0 ≤ x.f2 ∧ x.f2 < came
  len : L.length ≤ 32
  came0 : 0 ≤ came
  came1 : came ≤ N
  lost0 : 0 ≤ lost
  lost1 : lost ≤ N
theorem Inv.start : Inv [] [] 0 0 0 := ⟨List.Perm.refl _, List.Pairwise.nil, List.Pairwise.nil, List.Pairwise.nil, fun x hx => (by cases hx), by simp, by omega, by omega, by omega, by omega⟩
theorem Inv.more {l L : List S47} {came lost : Int} {N : Nat} (h : Inv l L came lost N) : Inv l L came lost (N + 1) :=
  ⟨h.perm, h.sort, h.keys, h.seqs, fun x hx => by obtain ⟨h1, h2, h3, h4, h5⟩ := h.vals x hx; exact ⟨h1, h2, by omega, h4, h5⟩, h.len, h.came0, by have := h.came1; omega, h.lost0, by have := h.lost1; omega⟩
theorem any_perm {l L : List S47} (h : l.Perm L) (p : S47 → Bool) : l.any p = L.any p := by
  rw [Bool.eq_iff_iff, List.any_eq_true, List.any_eq_true]
  exact ⟨fun ⟨x, hx, hp⟩ => ⟨x, h.mem_iff.1 hx, hp⟩, fun ⟨x, hx, hp⟩ => ⟨x, h.mem_iff.2 hx, hp⟩⟩
/-- A push: what it answers, and what it leaves but for the order. -/
theorem push_link {l : List S47} (hk : (l.map (·.f0.f0)).Nodup) (e : S27) (came : Int) : pushB l e = (decide (checkC e = 0) && !l.any (badK e)) ∧ (pushL l e came).Perm (⟨e, 0, came⟩ :: l.filter (noK e)) := by
  unfold pushB pushL
  rcases idxK_cases l e.f0 with ⟨hi, hno⟩ | ⟨i, hil, hi, hkey, hbef⟩
  · have h1 : l.any (badK e) = false := by
      rw [List.any_eq_false]
      intro x hx
      simp [badK, hno x hx]
    have h2 : l.filter (noK e) = l := by
      rw [List.filter_eq_self]
      intro x hx
      simp [noK, hno x hx]
    rw [hi, h1, h2, if_pos rfl]
    exact ⟨by simp, by simp⟩
  · have hne : ¬ ((i : Int) = -1) := by omega
    have hoth : ∀ x ∈ l, x.f0.f0 = e.f0 → x = l[i] := fun x hx he => key_inj hk hx (List.getElem_mem _) (by rw [he, hkey])
    have hany : l.any (badK e) = !aboveB e l[i].f0 := by
      rw [Bool.eq_iff_iff, List.any_eq_true]
      constructor
      · rintro ⟨x, hx, hb⟩
        unfold badK at hb
        rw [Bool.and_eq_true, decide_eq_true_eq] at hb
        rw [← hoth x hx hb.1]
        exact hb.2
      · intro hb
        exact ⟨l[i], List.getElem_mem _, by unfold badK; rw [hkey]; simpa using hb⟩
    have hfil : l.filter (noK e) = l.take i ++ l.drop (i + 1) := by
      have hsplit : l = l.take i ++ l[i] :: l.drop (i + 1) := by rw [← List.drop_eq_getElem_cons hil, List.take_append_drop]
      have hk2 := hk
      rw [hsplit, List.map_append, List.map_cons, List.nodup_append] at hk2
      obtain ⟨_, h2, h3⟩ := hk2
      rw [List.nodup_cons] at h2
      have ht : (l.take i).filter (noK e) = l.take i := by
        rw [List.filter_eq_self]
        intro x hx
        have hx3 : x.f0.f0 ≠ l[i].f0.f0 := h3 _ (List.mem_map.2 ⟨x, hx, rfl⟩) _ (by simp)
        unfold noK
        rw [hkey] at hx3
        exact decide_eq_true hx3
      have hd : (l.drop (i + 1)).filter (noK e) = l.drop (i + 1) := by
        rw [List.filter_eq_self]
        intro x hx
        unfold noK
        refine decide_eq_true (fun he => h2.1 ?_)
        rw [hkey]
        exact List.mem_map.2 ⟨x, hx, he⟩
      have hx0 : noK e l[i] = false := by unfold noK; rw [hkey]; simp
      have := congrArg (List.filter (noK e)) hsplit
      rw [List.filter_append, List.filter_cons, hx0, ht, hd] at this
      simpa using this
    rw [hi, if_neg hne, Int.toNat_natCast, rd47_get l i hil, hany, hfil, decide_eq_false hne]
    refine ⟨by simp, ?_⟩
    rw [List.set_eq_take_append_cons_drop, if_pos hil]
    exact List.perm_middle
theorem filter_perm {l L : List S47} (h : l.Perm L) (p : S47 → Bool) : (l.filter p).Perm (L.filter p) := h.filter p
theorem Inv.push {l L : List S47} {came lost : Int} {N : Nat} (h : Inv l L came lost N) (e : S27) {l' : List S47} {lost' : Int} (hn : PushN l e came lost l' lost') :
    ∃ L', refPush L came lost e = (L', (if pushB l e then came + 1 else came), lost', pushB l e) ∧ Inv l' L' (if pushB l e then came + 1 else came) lost' (N + 1) := by
  have hkl : (l.map (·.f0.f0)).Nodup := (h.perm.map (·.f0.f0)).nodup_iff.2 h.keys
  obtain ⟨hb, hpl⟩ := push_link hkl e came
  rw [any_perm h.perm] at hb
  unfold PushN at hn
  unfold refPush
  by_cases hc : checkC e = 0
  · rw [if_pos hc]
    rw [decide_eq_true hc, Bool.true_and] at hb
    by_cases ha : L.any (badK e) = true
    · rw [ha] at hb
      rw [if_pos ha]
      rw [show pushB l e = false from hb] at hn ⊢
      obtain ⟨rfl, rfl⟩ := hn
      exact ⟨L, rfl, h.more⟩
    · have ha' : L.any (badK e) = false := by simpa using ha
      rw [ha'] at hb
      rw [if_neg ha]
      have hb1 : pushB l e = true := hb
      rw [hb1] at hn ⊢
      rw [if_pos rfl] at hn
      rw [if_pos rfl]
      have hperm : (pushL l e came).Perm (putQ (L.filter (noK e)) ⟨e, 0, came⟩) := (hpl.trans ((filter_perm h.perm _).cons _)).trans (putQ_perm _ _).symm
      obtain ⟨L2, hL2⟩ : ∃ L2, L2 = putQ (L.filter (noK e)) ⟨e, 0, came⟩ := ⟨_, rfl⟩
      rw [← hL2] at hperm ⊢
      have hmem : ∀ x ∈ L2, x = ⟨e, 0, came⟩ ∨ (x ∈ L ∧ noK e x = true) := fun x hx => by
        rw [hL2] at hx
        rcases List.mem_cons.1 ((putQ_perm _ _).mem_iff.1 hx) with h1 | h1
        · exact .inl h1
        · exact .inr (List.mem_filter.1 h1)
      have hsub : ∀ y ∈ L.filter (noK e), y.f2 ≠ (⟨e, 0, came⟩ : S47).f2 := fun y hy he => by
        have := (h.vals y (List.mem_filter.1 hy).1).2.2.2.2
        have he' : y.f2 = came := he
        omega
      have hsort : SSort L2 := by rw [hL2]; exact putQ_sort _ _ (List.Pairwise.filter _ h.sort) hsub
      have hkeys : (L2.map (·.f0.f0)).Nodup := by
        rw [hL2, ((putQ_perm _ _).map (·.f0.f0)).nodup_iff, List.map_cons, List.nodup_cons]
        refine ⟨fun hm => ?_, List.Nodup.sublist ((List.filter_sublist).map _) h.keys⟩
        obtain ⟨y, hy, he⟩ := List.mem_map.1 hm
        have := (List.mem_filter.1 hy).2
        unfold noK at this
        rw [decide_eq_true_eq] at this
        exact this he
      have hseqs : (L2.map (·.f2)).Nodup := by
        rw [hL2, ((putQ_perm _ _).map (·.f2)).nodup_iff, List.map_cons, List.nodup_cons]
        refine ⟨fun hm => ?_, List.Nodup.sublist ((List.filter_sublist).map _) h.seqs⟩
        obtain ⟨y, hy, he⟩ := List.mem_map.1 hm
        exact hsub y hy he
      have hvals : ∀ x ∈ L2, checkC x.f0 = 0 ∧ 0 ≤ x.f1 ∧ x.f1 ≤ (N + 1 : Nat) ∧ 0 ≤ x.f2 ∧ x.f2 < came + 1 := fun x hx => by
        rcases hmem x hx with rfl | ⟨hx, _⟩
        · exact ⟨hc, by simp, by simp; omega, h.came0, by show came < came + 1; omega⟩
        · obtain ⟨h1, h2, h3, h4, h5⟩ := h.vals x hx
          exact ⟨h1, h2, by omega, h4, by omega⟩
      have hlen : L2.length ≤ 33 := by
        rw [hL2, putQ_len]
        have := List.length_filter_le (noK e) L
        have := h.len
        omega
      have hlen2 := hperm.length_eq
      have hcm := h.came1
      have hcm0 := h.came0
      have hlo := h.lost0
      have hlo1 := h.lost1
      by_cases hov : 32 < L2.length
      · rw [if_neg (by omega)] at hn
        obtain ⟨s, hs1, hs2, rfl, rfl⟩ := hn
        have hsL : s = L2 := uniq (hs1.trans hperm) hs2 hsort hseqs
        subst hsL
        rw [if_pos hov]
        exact ⟨s.take 32, rfl, List.Perm.refl _, List.Pairwise.sublist (List.take_sublist _ _) hsort, List.Nodup.sublist ((List.take_sublist _ _).map _) hkeys, List.Nodup.sublist ((List.take_sublist _ _).map _) hseqs, fun x hx => hvals x (List.mem_of_mem_take hx), by rw [List.length_take]; omega, by omega, by omega, by omega, by omega⟩
      · rw [if_pos (by omega)] at hn
        obtain ⟨rfl, rfl⟩ := hn
        rw [if_neg hov]
        exact ⟨L2, rfl, hperm, hsort, hkeys, hseqs, hvals, by omega, by omega, by omega, hlo, by omega⟩
  · rw [if_neg hc]
    rw [decide_eq_false hc, Bool.false_and] at hb
    rw [hb] at hn ⊢
    obtain ⟨rfl, rfl⟩ := hn
    exact ⟨L, rfl, h.more⟩
theorem foldl_perm : ∀ (l a : List S47), (l.foldl putQ a).Perm (l ++ a)
  | [], a => List.Perm.refl _
  | x :: t, a => by
    rw [List.foldl_cons]
    refine (foldl_perm t (putQ a x)).trans ?_
    exact ((putQ_perm a x).append_left t).trans List.perm_middle
theorem foldl_sort : ∀ (l a : List S47), SSort a → ((l ++ a).map (·.f2)).Nodup → SSort (l.foldl putQ a)
  | [], a, h, _ => h
  | x :: t, a, h, hn => by
    rw [List.foldl_cons]
    rw [List.cons_append, List.map_cons, List.nodup_cons] at hn
    refine foldl_sort t _ (putQ_sort a x h (fun y hy he => hn.1 (List.mem_map.2 ⟨y, List.mem_append.2 (.inr hy), he⟩))) ?_
    have hp : (t ++ putQ a x).Perm (x :: (t ++ a)) := ((putQ_perm a x).append_left t).trans List.perm_middle
    rw [(hp.map (·.f2)).nodup_iff, List.map_cons, List.nodup_cons]
    exact hn
theorem takeL_sub : ∀ (l : List S47) (room limit : Int), List.Sublist ((takeL l room limit).2.map (·.f2)) (l.map (·.f2)) ∧ List.Sublist ((takeL l room limit).2.map (·.f0.f0)) (l.map (·.f0.f0)) ∧ (takeL l room limit).2.length ≤ l.length ∧
    ∀ y ∈ (takeL l room limit).2, ∃ x ∈ l, y.f0 = x.f0 ∧ y.f2 = x.f2 ∧ (y.f1 = x.f1 ∨ y.f1 = x.f1 + 1)
  | [], room, limit => by simp [takeL]
  | x :: t, room, limit => by
    rw [takeL_cons]
    by_cases hs : sizeE x.f0 ≤ room
    · rw [if_pos hs]
      obtain ⟨h1, h2, h3, h4⟩ := takeL_sub t (room - sizeE x.f0) limit
      by_cases hl : limit ≤ x.f1 + 1
      · dsimp only
        rw [if_pos hl]
        exact ⟨h1.cons _, h2.cons _, by simp; omega, fun y hy => by obtain ⟨z, hz, h⟩ := h4 y hy; exact ⟨z, List.mem_cons_of_mem _ hz, h⟩⟩
      · dsimp only
        rw [if_neg hl]
        refine ⟨h1.cons_cons _, h2.cons_cons _, by simp; omega, fun y hy => ?_⟩
        rcases List.mem_cons.1 hy with rfl | hy
        · exact ⟨x, by simp, rfl, rfl, .inr rfl⟩
        · obtain ⟨z, hz, h⟩ := h4 y hy
          exact ⟨z, List.mem_cons_of_mem _ hz, h⟩
    · rw [if_neg hs]
      obtain ⟨h1, h2, h3, h4⟩ := takeL_sub t room limit
      refine ⟨h1.cons_cons _, h2.cons_cons _, by simp; omega, fun y hy => ?_⟩
      rcases List.mem_cons.1 hy with rfl | hy
      · exact ⟨y, by simp, rfl, rfl, .inl rfl⟩
      · obtain ⟨z, hz, h⟩ := h4 y hy
        exact ⟨z, List.mem_cons_of_mem _ hz, h⟩
/-- Items that the program has sorted are the document's. -/
theorem Inv.sorted {l L l' : List S47} {came lost : Int} {N : Nat} (h : Inv l L came lost N) (hp : l'.Perm l) (hs : SortedQ l') : l' = L := uniq (hp.trans h.perm) hs h.sort h.seqs
theorem Inv.take {l L : List S47} {came lost : Int} {N : Nat} (h : Inv l L came lost N) (room limit : Int) : Inv (takeL L room limit).2 (refTake L room limit) came lost (N + 1) := by
  obtain ⟨h1, h2, h3, h4⟩ := takeL_sub L room limit
  have hp : (refTake L room limit).Perm (takeL L room limit).2 := by
    have := foldl_perm (takeL L room limit).2 []
    rw [List.append_nil] at this
    exact this
  refine ⟨hp.symm, foldl_sort _ _ List.Pairwise.nil (by rw [List.append_nil]; exact List.Nodup.sublist h1 h.seqs), ?_, ?_, fun x hx => ?_, by rw [hp.length_eq]; have := h.len; omega, h.came0, by have := h.came1; omega, h.lost0, by have := h.lost1; omega⟩
  · rw [(hp.map (·.f0.f0)).nodup_iff]; exact List.Nodup.sublist h2 h.keys
  · rw [(hp.map (·.f2)).nodup_iff]; exact List.Nodup.sublist h1 h.seqs
  · obtain ⟨y, hy, e0, e2, e1⟩ := h4 x (hp.mem_iff.1 hx)
    obtain ⟨v1, v2, v3, v4, v5⟩ := h.vals y hy
    rw [e0, e2]
    refine ⟨v1, ?_, ?_, v4, v5⟩ <;> rcases e1 with e | e <;> rw [e] <;> omega
end Go.Proofs.YtmifpookhhkgeaaDoor.Q
