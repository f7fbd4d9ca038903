/- Whether pairs may be: the program's parts and Check, the document's Check, told plainly. -/
import Derived.Test.YtjgommaikaeobaaDoorLP
import Derived.Test.YtjgommaikaeobaaDoorLay
set_option linter.unusedVariables false
set_option linter.unusedSimpArgs false
namespace Go.Proofs.YtjgommaikaeobaaDoor.L
open Go.RowKit Go.Shelf Go.Lib Go.Proofs.YtjgommaikaeobaaDoorW.PrintWords Go.Proofs.YtjgommaikaeobaaDoor.PLabelSorts Go.Proofs.YtjgommaikaeobaaDoor.R

instance : Inhabited S35 := ⟨z35⟩
def enc35 (x : S35) : List Value := [.string x.f0, .string x.f1]
/-- Pairs that are read: their cells, one by one. -/
theorem pairs_cells {w : World} {A : Option Addr} {l : List S35} (h : Kd.C k35 w A l.length l) (hp : 0 < l.length) :
    ∃ b off, A = some ⟨b, off, none⟩ ∧ b < w.heap.size ∧ ∀ j, j < l.length → ∀ i v, (enc35 l[j]!)[i]? = some v → w.cell? ⟨b, off + j * 2 + i, none⟩ = some v := by
  obtain ⟨ad, c, rfl, _, hK, hc0⟩ := Kd.C_get h z35 0 (by omega) (by omega)
  obtain rfl := k35_open hK
  have hcell := hc0 0 _ rfl
  obtain ⟨b, off, sp⟩ := ad
  cases sp with
  | some s =>
    exfalso
    simp only [World.cell?, Addr.add] at hcell
    split at hcell <;> simp_all
  | none =>
    refine ⟨b, off, rfl, ?_, fun j hj i v hv => ?_⟩
    · have h1 := World.block_lt_of_cell? w _ hcell
      have h2 : ((⟨b, off, none⟩ : Addr).add ((0 : Int).toNat * k35.sz + 0)).block = b := by unfold Addr.add; split <;> rfl
      rw [h2] at h1
      exact h1
    · obtain ⟨ad2, c2, e2, _, hK2, hc2⟩ := Kd.C_get h z35 (j : Int) (by omega) (by omega)
      obtain rfl : (⟨b, off, none⟩ : Addr) = ad2 := Option.some.inj e2
      obtain rfl := k35_open hK2
      have h3 := hc2 i v (by
        rw [← hv]
        have : l[j]! = l.getD (j : Int).toNat z35 := by simp [hj]
        rw [this]
        rfl)
      have hsz : k35.sz = 2 := rfl
      rw [hsz, Int.toNat_natCast, add_at] at h3
      rw [Nat.add_assoc]
      exact h3

theorem long_pred (w : World) : PredBelow Tryd.prog 41 #[] (fun x => .agg (enc35 x).toArray) longP w := fun W x hb => by
  show Calls Tryd.prog 41 #[.agg #[.string x.f0, .string x.f1]] W _
  have hB := hb.alloc hb.size (Obj.cells #[Value.string x.f0, Value.string x.f1] 35 (0, 0))
  have hr : longP x = decide ((64 : Int) < x.f1.size) := by unfold longP; congr 1; simp; omega
  rw [hr]
  go_enter Tryd.func41, Tryd.ntmps41
  go_wp2
  all_goals (go_ret; exact ⟨by simp_all, hB⟩)
theorem bad_pred (w : World) : PredBelow Tryd.prog 42 #[] (fun x => .agg (enc35 x).toArray) badP w := fun W x hb => by
  show Calls Tryd.prog 42 #[.agg #[.string x.f0, .string x.f1]] W _
  have hB := Aside0.mk (hb.alloc hb.size (Obj.cells #[Value.string x.f0, Value.string x.f1] 35 (0, 0)))
  by_cases hs : x.f1.toList = ([] : List UInt8)
  · have hr : badP x = true := by unfold badP; simp [nil_size.1 hs]
    rw [hr]
    go_enter Tryd.func42, Tryd.ntmps42
    go_wp2_with (fail)
    go_ret
    exact ⟨rfl, hB.out⟩
  · have h0 : ¬ x.f1.size = 0 := fun e => hs (nil_size.2 e)
    have hr : badP x = !nameB x.f0 := by unfold badP; simp [h0]
    rw [hr]
    have hN := Aside0.mk (lname_any x.f0 (W.alloc (Obj.cells #[Value.string x.f0, Value.string x.f1] 35 (0, 0))))
    generalize nameB x.f0 = nb at hN ⊢
    go_enter Tryd.func42, Tryd.ntmps42
    go_wp2_with (fail)
    refine hN.out.mono ?_
    rintro e w' ⟨rfl, hd⟩
    have HB := Aside0.mk (below_then hB.out hB.out.size hd.below)
    clear hd hN
    go_wp2_with (fail)
    go_ret
    have e0 : x.f1.toList.isEmpty = false := by
      cases hq : x.f1.toList with
      | nil => exact absurd hq hs
      | cons _ _ => rfl
    exact ⟨by simp [e0], HB.out⟩

theorem eg41 : ∀ args w, (callFunc 41 args).run Tryd.prog w = .ok (.enter 41 args) w := enters_of Tryd.func41 (by kernel_rfl) rfl
theorem eg42 : ∀ args w, (callFunc 42 args).run Tryd.prog w = .ok (.enter 42 args) w := enters_of Tryd.func42 (by kernel_rfl) rfl
/-- ContainsFunc of no pairs. -/
theorem cf_nil (A : Option Addr) (c : Nat) (f : Value) (w : World) : Calls Tryd.prog 43 #[.slice A 0 c, f] w fun e w' => e = .returned (.bool false) ∧ w' = w := by
  have h53 : Calls Tryd.prog 53 #[.slice A 0 c, f] w fun e w' => e = .returned (.int .i64 (-1)) ∧ w' = w := by
    go_enter Tryd.func53, Tryd.ntmps53
    go_wp2_with (fail)
    go_loopg [8] 1 (fun kq v wr => v = .int .i64 0 ∧ wr = w)
    case atStart => exact ⟨rfl, rfl⟩
    case round =>
      obtain ⟨rfl, rfl⟩ := hrel
      go_wp2
      go_ret
      exact ⟨rfl, rfl⟩
  go_enter Tryd.func43, Tryd.ntmps43
  go_wp2_with (fail)
  refine h53.mono ?_
  rintro e w' ⟨rfl, rfl⟩
  go_wp2_with (fail)
  go_ret
  exact ⟨rfl, rfl⟩
theorem cf_any (g : Nat) (eg : ∀ args w, (callFunc g args).run Tryd.prog w = .ok (.enter g args) w) (p : S35 → Bool) (hp : ∀ w, PredBelow Tryd.prog g #[] (fun x => .agg (enc35 x).toArray) p w) (A : Option Addr) (c : Nat) (l : List S35) (w : World) (h : Kd.C k35 w A l.length l) :
    Calls Tryd.prog 43 #[.slice A l.length c, .func (.func g) #[] #[]] w fun e w' => e = .returned (.bool (l.any p)) ∧ Below w.heap.size w w' := by
  by_cases hl : 0 < l.length
  · obtain ⟨b, off, rfl, hb, hc⟩ := pairs_cells h hl
    have := AnyQ.slices_ContainsFunc Tryd.layCF 2 Tryd.isAgg35 Tryd.sizeOf35 enc35 (fun _ => rfl) p g #[] eg b off l.length c l w (hp w) (Nat.le_refl _) h.2.1 hb hc
    rw [List.take_length] at this
    exact this
  · have e : l = [] := List.eq_nil_of_length_eq_zero (by omega)
    subst e
    exact (cf_nil A c _ w).mono fun _ _ ⟨he, hw⟩ => ⟨he, by rw [hw]; exact Below.refl _ _⟩

set_option maxHeartbeats 1000000 in
theorem parts_any (A : Option Addr) (c : Nat) (l : List S35) (w : World) (h : Kd.C k35 w A l.length l) :
    Calls Tryd.prog 24 #[.slice A l.length c] w fun e w' => e = .returned (.int .i64 (partsE l)) ∧ Below w.heap.size w w' := by
  by_cases h8 : (8 : Int) < l.length
  · have hr : partsE l = 5 := by unfold partsE; simp [show 8 < l.length by omega]
    rw [hr]
    go_enter Tryd.func24, Tryd.ntmps24
    go_wp2_with (fail)
    go_ret
    exact ⟨rfl, Below.refl _ _⟩
  · have h8b : decide ((8 : Int) < l.length) = false := decide_eq_false h8
    have H1 := Aside0.mk (cf_any 41 eg41 longP long_pred A c l w h)
    have H := Aside0.mk h
    cases hlo : l.any longP with
    | true =>
      have hr : partsE l = 5 := by unfold partsE; simp [hlo]
      rw [hr]
      rw [hlo] at H1
      clear h hlo hr
      go_enter Tryd.func24, Tryd.ntmps24
      go_wp2_with (fail)
      refine H1.out.mono ?_
      rintro e w1 ⟨rfl, hb⟩
      have HB := Aside0.mk hb
      clear hb H1
      go_wp2_with (fail)
      go_ret
      exact ⟨rfl, HB.out⟩
    | false =>
      have hr : partsE l = if l.any badP then 6 else 0 := by unfold partsE; simp [hlo, show ¬ 8 < l.length by omega]
      rw [hr]
      rw [hlo] at H1
      clear h hlo hr
      cases hbd : l.any badP with
      | true =>
        rw [if_pos rfl]
        go_enter Tryd.func24, Tryd.ntmps24
        go_wp2_with (fail)
        refine H1.out.mono ?_
        rintro e w1 ⟨rfl, hb⟩
        have HB := Aside0.mk hb
        have H2 := Aside0.mk (cf_any 42 eg42 badP bad_pred A c l w1 (Kd.C_below H.out hb))
        rw [hbd] at H2
        clear hb H1 hbd
        go_wp2_with (fail)
        refine H2.out.mono ?_
        rintro e w2 ⟨rfl, hb⟩
        have HB2 := Aside0.mk (below_then HB.out HB.out.size hb)
        clear hb H2
        go_wp2_with (fail)
        go_ret
        exact ⟨rfl, HB2.out⟩
      | false =>
        rw [if_neg (by simp)]
        go_enter Tryd.func24, Tryd.ntmps24
        go_wp2_with (fail)
        refine H1.out.mono ?_
        rintro e w1 ⟨rfl, hb⟩
        have HB := Aside0.mk hb
        have H2 := Aside0.mk (cf_any 42 eg42 badP bad_pred A c l w1 (Kd.C_below H.out hb))
        rw [hbd] at H2
        clear hb H1 hbd
        go_wp2_with (fail)
        refine H2.out.mono ?_
        rintro e w2 ⟨rfl, hb⟩
        have HB2 := Aside0.mk (below_then HB.out HB.out.size hb)
        clear hb H2
        go_wp2_with (fail)
        go_ret
        exact ⟨rfl, HB2.out⟩
end Go.Proofs.YtjgommaikaeobaaDoor.L
