/- Due of the timers: the keys whose time has come, sorted by their times, then by themselves. -/
import Derived.Test.YtbocdfpgjkjilaaTB
import Derived.Test.YtbocdfpgjkjilaaSortG
set_option linter.unusedVariables false
set_option linter.unusedSimpArgs false
namespace Go.Proofs.Ytbocdfpgjkjilaa.T
open Go.RowKit Go.Maps Go.Sort Go.Proofs.YtbocdfpgjkjilaaW.PrintWords Go.Proofs.Ytbocdfpgjkjilaa.PTimerPlays Go.Proofs.Ytbocdfpgjkjilaa.R

/-! ### the order -/
/-- A key as it may be. -/
abbrev K := { s : ByteArray // s.size ≤ maxLen }
instance : Inhabited K := ⟨⟨⟨#[]⟩, by decide⟩⟩
def encK (x : K) : Value := .string x.1
theorem encK_one : OneCell encK := fun _ => rfl
def cmpK (L : List S52) (x y : K) : Int := cmpX L x.1 y.1
theorem compareBytes_lt (a b : List UInt8) : (Lib.compareBytes a b < 0 ↔ a < b) ∧ (Lib.compareBytes a b = 0 ↔ a = b) := by
  induction a generalizing b with
  | nil => cases b <;> simp [Lib.compareBytes]
  | cons x a ih =>
    cases b with
    | nil => simp [Lib.compareBytes]
    | cons y b =>
      simp only [Lib.compareBytes, List.cons_lt_cons_iff, List.cons.injEq]
      by_cases h1 : x < y
      · have : x ≠ y := fun e => by subst e; exact absurd h1 (UInt8.lt_irrefl _)
        simp [h1, this]
      · by_cases h2 : y < x
        · have : x ≠ y := fun e => by subst e; exact absurd h2 (UInt8.lt_irrefl _)
          simp [h1, h2, this]
        · have : x = y := UInt8.le_antisymm (UInt8.not_lt.1 h2) (UInt8.not_lt.1 h1)
          subst this
          simp [ih]
def ltK (L : List S52) (x y : K) : Prop := ltX ⟨x.1, tAt L x.1⟩ ⟨y.1, tAt L y.1⟩
instance (L : List S52) (x y : K) : Decidable (ltK L x y) := inferInstanceAs (Decidable (ltX _ _))
theorem ltOf_K (L : List S52) (x y : K) : ltOf (cmpK L) x y = decide (ltK L x y) := by
  unfold ltOf cmpK cmpX orI ltK ltX Lib.compareInt
  obtain ⟨h1, h2⟩ := compareBytes_lt x.1.data.toList y.1.data.toList
  by_cases a : tAt L x.1 < tAt L y.1
  · simp [a]
  · by_cases c : tAt L y.1 < tAt L x.1
    · have : tAt L x.1 ≠ tAt L y.1 := by omega
      simp [a, c, this]
    · have : tAt L x.1 = tAt L y.1 := by omega
      simp [this, h1]
theorem swoK (L : List S52) : SWO (ltOf (cmpK L)) where
  irrefl x := by rw [ltOf_K]; exact decide_eq_false (ltX_irrefl _)
  trans x y z h1 h2 := by
    rw [ltOf_K] at *
    exact decide_eq_true (ltX_trans (of_decide_eq_true h1) (of_decide_eq_true h2))
  ntrans x y z h1 h2 := by
    rw [ltOf_K] at *
    have h1 := of_decide_eq_false h1
    have h2 := of_decide_eq_false h2
    refine decide_eq_false (fun h3 => ?_)
    by_cases e : x.1 = y.1
    · have e' : x = y := Subtype.ext e
      subst e'
      exact h2 h3
    · have h4 : ltK L y x := ltX_total h1 e
      exact h2 (ltX_trans h4 h3)
theorem totK (L : List S52) : ∀ x y : K, ltOf (cmpK L) x y = false → ltOf (cmpK L) y x = false → x = y := by
  intro x y h1 h2
  rw [ltOf_K] at *
  by_cases e : x.1 = y.1
  · exact Subtype.ext e
  · exact absurd (ltX_total (of_decide_eq_false h1) e) (of_decide_eq_false h2)

/-! ### what has been met -/
def Met (L : List S52) (left : Lit → Bool) (M : List S52) : Prop :=
  (∀ x ∈ M, x ∈ L) ∧ Keys1 M ∧ (∀ x ∈ L, (x ∈ M ↔ left (.string x.f0.data.toList) = false))
theorem Met.perm {L M : List S52} {left : Lit → Bool} (h : Met L left M) (hL : Keys1 L) (hl : ∀ k, left k = false) : M.Perm L := by
  have hnd : M.Nodup := h.2.1.imp (fun {a b} hab e => hab (by rw [e]))
  have hndL : L.Nodup := hL.imp (fun {a b} hab e => hab (by rw [e]))
  exact (List.perm_ext_iff_of_nodup hnd hndL).2 (fun x => ⟨h.1 x, fun hx => (h.2.2 x hx).2 (hl _)⟩)
theorem Met.start {D : DataW Unit} {L : List S52} (h : RelD D L) : Met L (Maps.has D) [] :=
  ⟨fun x hx => (by cases hx), List.Pairwise.nil, fun x hx => ⟨fun h => (by cases h), fun h1 => by
    rw [h.has] at h1
    have := List.any_eq_false.1 h1 x hx
    simp at this⟩⟩
theorem Met.step {L M : List S52} {left : Lit → Bool} (h : Met L left M) (hk : Keys1 L) {x : S52} (hx : x ∈ L) (hl : left (.string x.f0.data.toList) = true) : Met L (fun z => left z && !z.sameKey (.string x.f0.data.toList)) (M ++ [x]) := by
  obtain ⟨h1, h2, h3⟩ := h
  have huniq : ∀ y ∈ L, y.f0 = x.f0 → y = x := by
    intro y hy e
    have f1 := find_perm_key hk y.f0 y hy rfl
    have f2 := find_perm_key hk y.f0 x hx e.symm
    rw [f1] at f2
    exact Option.some.inj f2
  refine ⟨?_, ?_, ?_⟩
  · intro y hy
    rcases List.mem_append.1 hy with hy | hy
    · exact h1 y hy
    · rw [List.mem_singleton.1 hy]; exact hx
  · refine List.pairwise_append.2 ⟨h2, List.pairwise_singleton _ _, fun a ha c hc => ?_⟩
    rw [List.mem_singleton.1 hc]
    intro e
    have := huniq a (h1 a ha) e
    subst this
    rw [(h3 a hx).1 ha] at hl
    cases hl
  · intro y hy
    rw [List.mem_append, List.mem_singleton]
    simp only [sameKey_str]
    by_cases e : y.f0 = x.f0
    · have := huniq y hy e
      subst this
      simp
    · have hne : y ≠ x := fun h => e (by rw [h])
      simp [e, hne, h3 y hy]
theorem mem_of_atKey {D : DataW Unit} {L : List S52} (h : RelD D L) (hk : Keys1 L) {k : ByteArray} {c : Int} (hat : ∀ zd, D.atKey (.string k.data.toList) zd = .lit (.int .i64 c)) : (⟨k, c⟩ : S52) ∈ L := by
  have hh := Maps.has_true_of_atKey hat
  rw [h.has] at hh
  obtain ⟨x, hx, e⟩ := List.any_eq_true.1 hh
  simp only [decide_eq_true_eq] at e
  have := h.at_ hk k c (hat _)
  unfold tAt at this
  rw [find_perm_key hk k x hx e] at this
  simp only at this
  have : x = ⟨k, c⟩ := by cases x; simp_all
  rw [← this]; exact hx

def dueL (L : List S52) (now : Int) : List ByteArray := (L.filter fun x => decide (x.f1 ≤ now)).map (·.f0)

theorem keyOf_str (key : Value) (kl : Lit) (h : keyOf Try.prog 9 key = some kl) : ∃ x : K, key = encK x ∧ kl = .string x.1.data.toList := by
  cases key <;> simp [keyOf, Try.underlying9, mapKey] at h
  rename_i s
  exact ⟨⟨s, h.1⟩, rfl, h.2.symm⟩
def ksOf (l : List ByteArray) (h : ∀ x ∈ l, x.size ≤ maxLen) : List K := l.attach.map fun x => ⟨x.1, h _ x.2⟩
theorem ksOf_enc (l : List ByteArray) (h : ∀ x ∈ l, x.size ≤ maxLen) : (ksOf l h).map encK = l.map Value.string := by
  unfold ksOf
  rw [List.map_map]
  have : (encK ∘ fun x : { x // x ∈ l } => (⟨x.1, h _ x.2⟩ : K)) = fun x => Value.string x.1 := rfl
  rw [this]
  conv => rhs; rw [← List.attach_map_subtype_val l, List.map_map]
  rfl
theorem ksOf_val (l : List ByteArray) (h : ∀ x ∈ l, x.size ≤ maxLen) : (ksOf l h).map (·.1) = l := by
  unfold ksOf
  rw [List.map_map]
  have : ((fun x : K => x.1) ∘ fun x : { x // x ∈ l } => (⟨x.1, h _ x.2⟩ : K)) = fun x => x.1 := rfl
  rw [this, List.attach_map_subtype_val]
theorem perm_of_val : ∀ {a c : List K}, (a.map (·.1)).Perm (c.map (·.1)) → a.Perm c
  | [], c, h => by
    have := h.length_eq
    simp only [List.map_nil, List.length_nil, List.length_map] at this
    rw [List.eq_nil_of_length_eq_zero this.symm]
  | x :: a, c, h => by
    have hx : x.1 ∈ c.map (·.1) := h.mem_iff.1 (by simp)
    obtain ⟨y, hy, e⟩ := List.mem_map.1 hx
    obtain rfl : y = x := Subtype.ext e
    obtain ⟨s, t, rfl⟩ := List.append_of_mem hy
    have h1 : ((s ++ y :: t).map (·.1)).Perm (y.1 :: (s ++ t).map (·.1)) := by
      exact (List.perm_middle (a := y) (l₁ := s) (l₂ := t)).map (·.1)
    have h2 := (h.trans h1)
    rw [List.map_cons] at h2
    exact ((perm_of_val h2.cons_inv).cons y).trans List.perm_middle.symm
/-- The sort of whatever order of the due keys is the due keys. -/
theorem sort_due {L : List S52} (hk : Keys1 L) (hs : L.Pairwise ltX) (hS : Short L) (now : Int) (ks : List K) (hp : (ks.map (·.1)).Perm (dueL L now)) : ((ks.mergeSort fun x y => !(ltOf (cmpK L)) y x).map encK) = (dueL L now).map Value.string := by
  have hsz : ∀ x ∈ dueL L now, x.size ≤ maxLen := by
    intro x hx
    obtain ⟨y, hy, rfl⟩ := List.mem_map.1 hx
    exact (hS y (List.mem_filter.1 hy).1).1
  rw [← ksOf_enc _ hsz]
  congr 1
  have htot := totK L
  have hO := swoK L
  refine List.Perm.eq_of_pairwise (le := fun x y => (!(ltOf (cmpK L)) y x) = true) ?_ (List.pairwise_mergeSort ?_ ?_ _) ?_ ((List.mergeSort_perm _ _).trans (perm_of_val (by rw [ksOf_val]; exact hp)))
  · intro a c _ _ h1 h2
    simp only [Bool.not_eq_true'] at h1 h2
    exact htot a c h2 h1
  · intro a c d h1 h2
    simp only [Bool.not_eq_true'] at h1 h2 ⊢
    exact hO.ntrans d c a h2 h1
  · intro a c
    simp only [Bool.or_eq_true, Bool.not_eq_true']
    cases h1 : ltOf (cmpK L) c a with
    | false => exact .inl rfl
    | true =>
      refine .inr ?_
      cases h2 : ltOf (cmpK L) a c with
      | false => rfl
      | true =>
        have := hO.trans a c a h2 h1
        rw [hO.irrefl] at this
        cases this
  · have h1 : ((ksOf (dueL L now) hsz).map (·.1)).Pairwise (fun x y => ltX ⟨x, tAt L x⟩ ⟨y, tAt L y⟩) := by
      rw [ksOf_val]
      unfold dueL
      rw [List.pairwise_map]
      have hf : (L.filter fun x => decide (x.f1 ≤ now)).Pairwise ltX := hs.filter _
      refine hf.imp_of_mem (fun {a c} ha hc hlt => ?_)
      have e1 : tAt L a.f0 = a.f1 := by unfold tAt; rw [find_perm_key hk a.f0 a (List.mem_filter.1 ha).1 rfl]
      have e2 : tAt L c.f0 = c.f1 := by unfold tAt; rw [find_perm_key hk c.f0 c (List.mem_filter.1 hc).1 rfl]
      rw [e1, e2]
      exact hlt
    rw [List.pairwise_map] at h1
    refine h1.imp (fun {a c} hlt => ?_)
    simp only [Bool.not_eq_true']
    rw [ltOf_K]
    exact decide_eq_false (fun h => ltX_irrefl _ (ltX_trans hlt h))

theorem cmpLaysK (g b t : Nat) (L : List S52) (blk off size : Nat) (w : World) (h : Tm w g b L) (ht : w.cell? ⟨t, 0, none⟩ = some (.pointer (some ⟨g, 0, none⟩))) (hg : g ≠ blk) (hb : b ≠ blk) (htb : t ≠ blk) :
    CmpLays1 Try.prog 30 #[.pointer (some ⟨t, 0, none⟩)] encK (cmpK L) blk off size w := by
  intro m os dk hs x y
  have hgr := SortG.grownBy_sorted (w := w) (g := blk) (o := off) (n := m) (os := os) (enc := encK) dk
  have h' := h.kept hgr (by simpa using hg) (by simpa using hb)
  have htl := World.block_lt_of_cell? w _ ht
  have ht' : (sortWorld encK w blk off m dk os).cell? ⟨t, 0, none⟩ = some (.pointer (some ⟨g, 0, none⟩)) := (World.cell?_of_block (hgr.block t htl (by simpa using htb))).trans ht
  exact (due1_any g b t L x.1 y.1 _ h' ht' x.2 y.2).mono fun _ _ ⟨he, q, os', hq⟩ => ⟨he, q, os', hq⟩

set_option maxRecDepth 100000 in
set_option maxHeartbeats 2000000 in
theorem due_any (g b : Nat) (L : List S52) (now : Int) (w : World) (h : Tm w g b L) (hs : L.Pairwise ltX) (hL : L.length ≤ 1000000000) :
    Calls Try.prog 18 #[.pointer (some ⟨g, 0, none⟩), .int .i64 now] w fun e w' => ∃ v, e = .returned v ∧ Kd.R Kd.string 9 w' w.heap.size (fun _ => True) v (dueL L now) ∧ Below w.heap.size w w' := by
  have HT := Aside0.mk h
  have hgl := h.gt
  obtain ⟨h1, h2, h3, D, h4, h5⟩ := h
  have c0 : w.cell? ⟨g, 0, none⟩ = some (.map (some b)) := (blk_cell h1 0).trans rfl
  have H2 := Aside0.mk h2
  have H3 := Aside0.mk h3
  have H5 := Aside0.mk h5
  have HS := Aside0.mk hs
  have HZ := Aside0.mk h5.size
  clear h1 h2 h3 h5 hs
  obtain ⟨i0, hi, hz0, hz1, hz2⟩ := info_parts info9
  have hbl : b < w.heap.size := hgl.2
  go_enter Try.func18, Try.ntmps18
  go_wp2_with (first
    | (at_range; refine wpList_range_own _ rfl _ 54 rfl 9 3 law9 Try.underlying54 _ b _ D rfl (h4.alloc _) ?_; intro w0 hrg0 hg0 hs0)
    | go_in)
  go_frame
  have HB0 : Below w.heap.size w w0 := (below_alloc (Below.refl _ _) _).grown hg0 (by simp) (fun j hj => by cases hj)
  have hcb : w0.heap[w.heap.size]? = some (.cells #[.pointer (some ⟨g, 0, none⟩)] 25 (0, 0)) := by
    rw [hg0.block w.heap.size (by simp) (by simp)]; exact blk_new w _
  have HS0 := Aside0.mk hs0
  clear hs0
  have hr1 : (w.alloc (Obj.cells #[Value.pointer (some { block := g, off := 0 })] 25)).heap.size = w.heap.size + 1 := by simp
  rw [hr1] at hrg0
  simp only [hr1]
  clear hr1
  go_loopw [5] (fun v wr => ∃ (left : Lit → Bool) (cnt : Nat) (M : List S52), Aside0 (wr.ranges Try.prog 9 (plainElem Try.prog 3) b (w.heap.size + 1) L.length D left cnt) ∧ Aside0 (M.length + cnt ≤ L.length) ∧
      Aside0 (wr.ownsRow w.heap.size 9 1 v (dueL M now).length ((dueL M now).map Value.string)) ∧ Aside0 (Met L left M) ∧ Aside0 (Below w.heap.size w wr) ∧ Aside0 (wr.heap[w.heap.size]? = some (.cells #[.pointer (some ⟨g, 0, none⟩)] 25 (0, 0))))
    (fun _ wr => wr.rangeLeft b (w.heap.size + 1))
  case atStart =>
    exact ⟨_, _, [], ⟨hrg0⟩, ⟨by rw [HZ.out]; simp⟩, ⟨own_nil _ _ _ _⟩, ⟨Met.start H5.out⟩, ⟨HB0⟩, ⟨hcb⟩⟩
  case round =>
    clear hrg0 HB0 hcb
    obtain ⟨left, cnt, M, hrg, hcs, hrow, hC, hnx, hcell⟩ := hrel
    go_wp2_with (first
      | (at_next; refine wpList_next_ranges (α := K) (β := Int) _ rfl _ rfl 9 law9 (plainElem Try.prog 3) encK (Value.int .i64) (fun key kl hk => by obtain ⟨x, hx, _⟩ := keyOf_str key kl hk; exact ⟨x, hx⟩) (fun v y hv => by obtain ⟨c, rfl, _⟩ := plainElem_int_inv Try.underlying3 hv; exact ⟨c, rfl⟩) b (w.heap.size + 1) L.length _ _ _ rfl hrg.out ?_ ?_)
      | go_in)
    · intro hc0 hl0
      have HP := Aside0.mk (hC.out.perm H2.out hl0)
      have hsz : ∀ x ∈ dueL M now, x.size ≤ maxLen := by
        intro x hx
        obtain ⟨y, hy, rfl⟩ := List.mem_map.1 hx
        exact (H3.out y (hC.out.1 y (List.mem_filter.1 hy).1)).1
      have HKP := Aside0.mk (show ((ksOf (dueL M now) hsz).map (·.1)).Perm (dueL L now) by rw [ksOf_val]; exact (HP.out.filter _).map _)
      have hrow' : wr.ownsRow w.heap.size 9 1 u5 (ksOf (dueL M now) hsz).length ((ksOf (dueL M now) hsz).map encK) := by
        rw [ksOf_enc]
        have : (ksOf (dueL M now) hsz).length = (dueL M now).length := by simp [ksOf]
        rw [this]; exact hrow.out
      have HL := Aside0.mk (show (ksOf (dueL M now) hsz).length = (dueL L now).length by have := HKP.out.length_eq; simpa using this)
      have HLL := Aside0.mk (show (dueL L now).length ≤ L.length by unfold dueL; rw [List.length_map]; exact List.length_filter_le _ _)
      clear hrow hcs
      generalize hks : ksOf (dueL M now) hsz = ks at hrow' HKP HL
      clear hks hC HP hsz
      have htm : Tm wr g b L := HT.out.below hnx.out
      rcases hrow'.2 with ⟨rfl, hnil⟩ | ⟨gb, cap, cur, rfl, hbase, hb, e1, e2, e3, e4⟩
      · have hk0 : ks = [] := List.eq_nil_of_length_eq_zero hnil
        have HK0 := Aside0.mk hk0
        have HE := Aside0.mk (show dueL L now = [] by have := HL.out; rw [hk0] at this; exact List.eq_nil_of_length_eq_zero this.symm)
        have hcon := Try.slices_SortFunc_none (α := K) none 0 (.func (.func 30) #[] #[.pointer (some ⟨w.heap.size, 0, none⟩)]) wr
        subst hk0
        clear hnil hrow'
        go_wp2_with (go_at_call 29; refine hcon.mono ?_; rintro e w' ⟨rfl, rfl⟩)
        go_ret
        exact ⟨_, rfl, by rw [HE.out]; exact Kd.R_nil _ _ _ _ _, hnx.out⟩
      · have hH : Holds encK wr gb 0 ks.toArray := SortG.holds_of_block hb (by simpa using e4)
        have hgbl : gb < wr.heap.size := (Array.getElem?_eq_some_iff.1 hb).1
        have eg : ∀ args w, (callFunc 30 args).run Try.prog w = .ok (.enter 30 args) w := enters_of Try.func30 (by kernel_rfl) rfl
        have n1 : g ≠ gb := by omega
        have n2 : b ≠ gb := by omega
        have n3 : w.heap.size ≠ gb := by
          intro e
          have h7 := hcell.out
          rw [e, hb] at h7
          injection h7 with h7
          injection h7 with _ h7
          exact absurd h7 (by decide)
        have hcc : wr.cell? ⟨w.heap.size, 0, none⟩ = some (.pointer (some ⟨g, 0, none⟩)) := (blk_cell hcell.out 0).trans rfl
        have hcon := Try.slices_SortFunc_total encK encK_one (cmpK L) (swoK L) 30 #[.pointer (some ⟨w.heap.size, 0, none⟩)] gb 0 cap ks.toArray wr eg (cmpLaysK g b w.heap.size L gb 0 ks.toArray.size wr htm hcc n1 n2 n3) hH hgbl (by have := HL.out; have := HLL.out; simp; omega) (totK L)
        have hsd := sort_due H2.out HS.out H3.out now ks HKP.out
        rw [show ks.toArray.toList = ks by simp] at hcon
        generalize hms : (ks.mergeSort fun x y => !(ltOf (cmpK L)) y x) = ms at hcon hsd
        have HM := Aside0.mk (show ms.length = ks.length by rw [← hms, List.length_mergeSort])
        have HSD := Aside0.mk hsd
        have Hb := Aside0.mk hb
        have H1 := Aside0.mk e1
        have H4 := Aside0.mk e2
        have H6 := Aside0.mk e3
        have HBA := Aside0.mk hbase
        rw [show ks.toArray.size = ks.length by simp] at hcon
        clear hms hsd hb e1 e2 e3 e4 hH hgbl n1 n2 n3 hbase hrow' htm hcc
        go_wp2_with (go_at_call 29; refine hcon.mono ?_; rintro e w' ⟨rfl, nn, os, rfl⟩)
        go_ret
        have ho := SortG.ownsRow_sorted (n := nn) (os := os) (enc := encK) HM.out HBA.out Hb.out H1.out H4.out H6.out
        rw [HSD.out] at ho
        refine ⟨_, rfl, ?_, hnx.out.grown (SortG.grownBy_sorted _) hnx.out.size (fun j hj => by cases hj; exact HBA.out)⟩
        refine Kd.R_of_own (enc := Value.string) ?_ (fun _ _ => trivial)
        rw [← HL.out]
        exact ho
    · intro x hx c kl yd yp w2 cnt2 hkey hlk hv hat hrg2 hlt hg2 hs2 hen
      obtain ⟨x', ex, rfl⟩ := keyOf_str _ _ hkey
      obtain rfl : x = x'.1 := by simpa [encK] using ex
      have hrow2 := hrow.out.kept hg2 (Or.inr (SortG.row_ne_iter hrow.out hrg.out).symm)
      obtain ⟨c', ec, hyd, hwc⟩ := plainElem_int_inv Try.underlying3 hv
      obtain rfl : c = c' := by simpa using ec
      obtain rfl : yd = .lit (.int .i64 c) := by simpa using congrArg Prod.fst hyd
      have hmem := mem_of_atKey H5.out H2.out hat
      have HMet := Aside0.mk (hC.out.step H2.out hmem hlk)
      have hblk2 := blk_grown hcell.out hg2 (by simp)
      have HB2 := hnx.out.grown hg2 hnx.out.size (fun j hj => by cases hj; omega)
      have hcs' := hcs.out
      have HCN := Aside0.mk (show (M ++ [(⟨x'.1, c⟩ : S52)]).length + cnt2 ≤ L.length by simp; omega)
      have hML : (dueL M now).length ≤ M.length := by unfold dueL; rw [List.length_map]; exact List.length_filter_le _ _
      have hM1 : M.length + 1 ≤ L.length := by omega
      have HLT := Aside0.mk hlt
      have Hn2 := Aside0.mk hrow2
      clear hs2 hmem hlk hv hyd hwc hat hC hcs hcs' ec ex hlt hrow hkey
      simp only [encK] at hen ⊢
      by_cases hle : c ≤ now
      · have HD := Aside0.mk (show dueL (M ++ [(⟨x'.1, c⟩ : S52)]) now = dueL M now ++ [x'.1] by simp [dueL, List.filter_append, hle])
        have hz2' : w.heap.size ≤ w2.heap.size := HB2.size
        go_wp2_with (first
          | (at_builtin; refine wpList_append_own _ rfl _ _ 42 rfl w.heap.size 9 i0 (.string ⟨#[]⟩) 1 16 Try.underlying42 hi hz0 hz1 hz2 rfl (by decide) _ _ _ rfl (hrow2.alloc _) ⟨w2.heap.size, 0, none⟩ 1 1 [.string x'.1] rfl rfl (cell_one_new _ _ _) (by simp [Value.oneCell']) (by unfold maxLen; omega) (by omega) (by simp; omega) ?_; intro v' w3 hown' hg3 hnil3; go_frame)
          | go_in)
        have hrg3 := (hrg2.alloc (Obj.cells #[Value.string x'.val] 9)).kept hg3 (SortG.row_ne_low Hn2.out hbl) (SortG.row_ne_iter Hn2.out hrg2)
        go_roundw
        case rel =>
          refine ⟨_, cnt2, M ++ [(⟨x'.1, c⟩ : S52)], ⟨hrg3⟩, HCN, ⟨by rw [HD.out]; simpa using hown'⟩, HMet, ⟨?_⟩, ⟨?_⟩⟩
          · exact (HB2.alloc hz2' _).grown hg3 (by simp; omega) (fun j hj => (Hn2.out.lt j hj).1)
          · exact blk_grown (blk_alloc hblk2 _) hg3 (fun e => own_ne Hn2.out hblk2 (by decide) e)
        case measure => rw [hrg3.left_eq, hrg.out.left_eq]; exact HLT.out
      · have HD := Aside0.mk (show dueL (M ++ [(⟨x'.1, c⟩ : S52)]) now = dueL M now by simp [dueL, List.filter_append, hle])
        go_wp2
        go_roundw
        case rel => exact ⟨_, cnt2, M ++ [(⟨x'.1, c⟩ : S52)], ⟨hrg2⟩, HCN, ⟨by rw [HD.out]; exact Hn2.out⟩, HMet, ⟨HB2⟩, ⟨hblk2⟩⟩
        case measure => rw [hrg2.left_eq, hrg.out.left_eq]; exact HLT.out
end Go.Proofs.Ytbocdfpgjkjilaa.T
