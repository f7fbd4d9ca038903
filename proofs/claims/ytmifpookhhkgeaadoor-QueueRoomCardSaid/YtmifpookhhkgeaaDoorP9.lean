-- Told by a program of this session out of the seat's translation.
import Derived.Test.YtmifpookhhkgeaaDoorP0
namespace Go.Proofs.YtmifpookhhkgeaaDoor.P
open Go.RowKit Go.Proofs.YtmifpookhhkgeaaDoorW.PrintWords Go.Proofs.YtmifpookhhkgeaaDoorW.PrintLast Go.Proofs.YtmifpookhhkgeaaDoorW.PrintMore
attribute [local go_sem] max2_int min2_int max_two min_two max_three min_three max_four min_four   -- for this text's walks alone
set_option linter.unusedVariables false
set_option linter.unusedSimpArgs false

-- NOT PRINTED: function 15 (watchfirelaw14_do)

-- NOT PRINTED: function 31 (queue_Item_31)

-- NOT PRINTED: function 16 (queue_Queue_List)

-- NOT PRINTED: function 4 (watchfirelaw14_QueueRoom)

-- NOT PRINTED: function 5 (watchfirelaw14_QueueLeast)

-- NOT PRINTED: function 18 (watchfirelaw14_same)

def watchfireref14_Limit.l0 : Nat → Int → Int → Option (Int)
  | 0, _, _ => none
  | k + 1, x0, x3 => if x0 > 1 then (watchfireref14_Limit.l0 k (wrap64 (Int.tdiv x0 2)) (wrap64 (x3 + 1))) else (some (wrap64 (3 * x3)))
def watchfireref14_Limit.f (k : Nat) (a0 : Int) : Option (Int) := watchfireref14_Limit.l0 k a0 1
theorem watchfireref14_Limit.mono_l : ∀ k, (∀ y0 y1, LeO (watchfireref14_Limit.l0 k y0 y1) (watchfireref14_Limit.l0 (k + 1) y0 y1))
  | 0 => fun _ _ r h => by simp [watchfireref14_Limit.l0] at h
  | k + 1 => by
    have ih0 := watchfireref14_Limit.mono_l k
    · intro y0 y1
      unfold watchfireref14_Limit.l0
      repeat' first
      | (with_reducible exact ih0 _ _)
      | (with_reducible exact LeO.refl _)
      | (with_reducible exact LeO.none _)
      | (with_reducible refine LeO.ite ?_ ?_)
      | (with_reducible refine LeO.bind ?_ (fun _ => ?_))
      | exact ih0 _ _
      | exact LeO.none _
      | refine LeO.ite ?_ ?_
      | refine LeO.bind ?_ (fun _ => ?_)
theorem watchfireref14_Limit.mono : ∀ a0 k, LeO (watchfireref14_Limit.f k a0) (watchfireref14_Limit.f (k + 1) a0) := by
  intro a0 k
  have ih0 := watchfireref14_Limit.mono_l k
  unfold watchfireref14_Limit.f
  repeat' first
      | (with_reducible exact ih0 _ _)
      | (with_reducible exact LeO.refl _)
      | (with_reducible exact LeO.none _)
      | (with_reducible refine LeO.ite ?_ ?_)
      | (with_reducible refine LeO.bind ?_ (fun _ => ?_))
      | exact ih0 _ _
      | exact LeO.none _
      | refine LeO.ite ?_ ?_
      | refine LeO.bind ?_ (fun _ => ?_)
set_option maxHeartbeats 8000000 in
set_option maxRecDepth 100000 in
theorem watchfireref14_Limit.calls (k : Nat) (a0 : Int) (r : Int) (w : World) (h : watchfireref14_Limit.f k a0 = some r) :
    Calls Tryd.prog 20 #[.int .i64 a0] w fun e w' => e = .returned (.int .i64 r) ∧ Drawn0 w w' := by
  have H : (watchfireref14_Limit.l0 k a0 1) = some r := h
  clear h
  have H' := Aside0.mk H
  clear H
  go_enter Tryd.func20, Tryd.ntmps20
  go_wp2
  go_loopg [0, 3] k (fun kq v0 v3 w' => ∃ (x0_1 : Int) (x3_1 : Int), v0 = .int .i64 x0_1 ∧ v3 = .int .i64 x3_1 ∧ Aside0 (watchfireref14_Limit.l0 kq x0_1 x3_1 = some r) ∧ Aside0 (kq ≤ k) ∧ Drawn0 w w')
  case atStart => exact ⟨(a0), (1), (by first | rfl | (simp; done) | (simp [*]; done)), (by first | rfl | (simp; done) | (simp [*]; done)), H', ⟨Nat.le_refl _⟩, by repeat (first | exact Drawn0.refl _ | apply Drawn0.step)⟩
  case round =>
    clear H'
    obtain ⟨x0_1, x3_1, rfl, rfl, HA, HK1, ⟨m1, rfl⟩⟩ := hrel
    cases gk with
    | zero => exact absurd HA.out (by simp [watchfireref14_Limit.l0])
    | succ k1 =>
      have H := HA.out
      clear HA
      simp only [watchfireref14_Limit.l0] at H
      by_cases c2 : x0_1 > 1
      · rw [if_pos c2] at H
        have c2b0 : decide (1 < x0_1) = true := decide_eq_true c2
        clear c2
        have H' := Aside0.mk H
        clear H
        go_wp2
        go_roundg k1
        case measure => have := HK1.out; omega
        case rel => exact ⟨(wrap64 (Int.tdiv x0_1 2)), (wrap64 (x3_1 + 1)), (by first | rfl | (simp; done) | (simp [*]; done)), (by first | rfl | (simp; done) | (simp [*]; done)), H', ⟨by have := HK1.out; omega⟩, by repeat (first | exact Drawn0.refl _ | apply Drawn0.step)⟩
      · rw [if_neg c2] at H
        have c2b0 : decide (1 < x0_1) = false := decide_eq_false c2
        clear c2
        obtain rfl := Option.some.inj H
        go_wp2
        go_ret
        exact ⟨by first | rfl | (simp; done) | (simp [*]; done), by repeat (first | exact Drawn0.refl _ | apply Drawn0.step)⟩

-- NOT PRINTED: function 6 (watchfirelaw14_QueuePlays)

-- NOT PRINTED: function 21 (queue_Queue_Fork)

-- NOT PRINTED: function 7 (watchfirelaw14_QueueForks)

end Go.Proofs.YtmifpookhhkgeaaDoor.P
