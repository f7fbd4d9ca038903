/- Finding a key among items; a row's own form. -/
import Derived.Test.YtmifpookhhkgeaaDoorQT
set_option linter.unusedVariables false
set_option linter.unusedSimpArgs false
namespace Go.Proofs.YtmifpookhhkgeaaDoor.Q
open Go.RowKit Go.Lib Go.Proofs.YtmifpookhhkgeaaDoorW.PrintWords Go.Proofs.YtmifpookhhkgeaaDoor.P
theorem index_nil (lb : Array Value) (w : World) : Calls Tryd.prog 23 #[.slice none 0 0, .func (.func 24) #[] lb] w fun e w' => e = .returned (.int .i64 (-1)) ∧ w' = w := by
  go_enter Tryd.func23, Tryd.ntmps23
  go_wp2_with (fail)
  go_loopg [8] 1 (fun kq u8 wr => u8 = .int .i64 0 ∧ Aside0 (wr = w))
  case atStart => exact ⟨rfl, ⟨rfl⟩⟩
  case round =>
    obtain ⟨rfl, HW⟩ := hrel
    obtain rfl := HW.out
    go_wp2_with (fail)
    go_ret
    exact ⟨rfl, rfl⟩
theorem idxFrom (key : ByteArray) : ∀ (l : List S47) (i : Nat), (Lib.idxByFrom (fun (_ : S47) y => decide (y.f0.f0 = key)) default l i = -1 ∧ ∀ x ∈ l, x.f0.f0 ≠ key) ∨
    ∃ k : Nat, ∃ h : k < l.length, Lib.idxByFrom (fun (_ : S47) y => decide (y.f0.f0 = key)) default l i = ((i + k : Nat) : Int) ∧ l[k].f0.f0 = key ∧ ∀ j (hj : j < k), (l[j]'(by omega)).f0.f0 ≠ key := by
  intro l
  induction l with
  | nil => intro i; exact .inl ⟨rfl, fun x hx => by cases hx⟩
  | cons y r ih =>
    intro i
    by_cases hy : y.f0.f0 = key
    · refine .inr ⟨0, by simp, ?_, hy, fun j hj => absurd hj (Nat.not_lt_zero _)⟩
      simp only [Lib.idxByFrom, decide_eq_true hy, if_true, Nat.add_zero]
    · have e : Lib.idxByFrom (fun (_ : S47) y => decide (y.f0.f0 = key)) default (y :: r) i = Lib.idxByFrom (fun (_ : S47) y => decide (y.f0.f0 = key)) default r (i + 1) := by
        simp only [Lib.idxByFrom, decide_eq_false hy, Bool.false_eq_true, if_false]
      rw [e]
      rcases ih (i + 1) with ⟨h1, h2⟩ | ⟨k, hk, h1, h2, h3⟩
      · refine .inl ⟨h1, fun x hx => ?_⟩
        rcases List.mem_cons.1 hx with rfl | hx
        · exact hy
        · exact h2 x hx
      · refine .inr ⟨k + 1, by simpa using hk, by rw [h1]; congr 1; omega, by simpa using h2, fun j hj => ?_⟩
        cases j with
        | zero => simpa using hy
        | succ j => simpa using h3 j (by omega)
theorem idxK_cases (l : List S47) (key : ByteArray) : (idxK l key = -1 ∧ ∀ x ∈ l, x.f0.f0 ≠ key) ∨ ∃ i : Nat, ∃ h : i < l.length, idxK l key = i ∧ l[i].f0.f0 = key ∧ ∀ j (hj : j < i), (l[j]'(by omega)).f0.f0 ≠ key := by
  unfold idxK Lib.idxBy
  rcases idxFrom key l 0 with h | ⟨k, hk, e, h⟩
  · exact .inl h
  · exact .inr ⟨k, hk, by rw [e, Nat.zero_add], h⟩
theorem index_all (A : Option Addr) (c : Nat) (l : List S47) (key : ByteArray) (bx : Nat) (w : World) (h : Kd.C k47 w A l.length l) (hn : l = [] → (Value.slice A l.length c) = .slice none 0 0) (hb : ∃ cs, w.heap[bx]? = some (.cells cs 27 (0, 0)) ∧ cs[0]? = some (.string key)) :
    Calls Tryd.prog 23 #[.slice A l.length c, .func (.func 24) #[] #[.pointer (some ⟨bx, 0, none⟩)]] w fun e w' => e = .returned (.int .i64 (idxK l key)) ∧ Below w.heap.size w w' := by
  by_cases hl : l.length = 0
  · have hl0 : l = [] := List.eq_nil_of_length_eq_zero hl
    subst hl0
    obtain ⟨rfl, rfl⟩ : A = none ∧ c = 0 := by have := hn rfl; simpa using this
    refine (index_nil _ w).mono ?_
    rintro e w1 ⟨rfl, rfl⟩
    exact ⟨rfl, Below.refl _ _⟩
  · exact index_any A c l key bx w h (by omega) hb
/-- A row that is not empty: where it lies. -/
theorem R_form {w : World} {base : Nat} {ok : Nat → Prop} {v : Value} {l : List S47} (h : Kd.R k47 47 w base ok v l) (hl : 0 < l.length) : ∃ rb cap, v = .slice (some ⟨rb, 0, none⟩) l.length cap ∧ base ≤ rb ∧ ok rb ∧ rb < w.heap.size ∧ ∃ cells, w.heap[rb]? = some (.cells cells 47 (0, 0)) := by
  have ho := flat_of_R h
  obtain ⟨_, hc⟩ := ho
  rcases hc with ⟨_, h2⟩ | ⟨g, cap, cur, e1, e2, e3, e4⟩
  · omega
  · exact ⟨g, cap, e1, e2, h.1 g (by rw [e1]; rfl), blk_lt e3, cur, e3⟩
end Go.Proofs.YtmifpookhhkgeaaDoor.Q
