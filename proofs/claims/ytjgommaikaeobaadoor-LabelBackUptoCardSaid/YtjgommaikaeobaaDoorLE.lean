/- A text of one letter, laid as the document says. -/
import Derived.Test.YtjgommaikaeobaaDoorLD
set_option linter.unusedVariables false
set_option linter.unusedSimpArgs false
namespace Go.Proofs.YtjgommaikaeobaaDoor.L
open Go.RowKit Go.Shelf Go.Lib Go.Proofs.YtjgommaikaeobaaDoorW.PrintWords Go.Proofs.YtjgommaikaeobaaDoor.PLabelSorts Go.Proofs.YtjgommaikaeobaaDoor.R

theorem small1 (w : World) : Calls Tryd.prog 80 #[.int .i64 1] w fun e w' => e = .returned (.string ⟨#[49]⟩) ∧ w' = w := by
  go_enter Tryd.func80, Tryd.ntmps80
  go_wp2
  go_ret
  exact ⟨rfl, rfl⟩
theorem appendUint1 (w : World) : Calls Tryd.prog 75 #[.slice none 0 0, .int .u64 1, .int .i64 10] w fun e w' => ∃ v, e = .returned v ∧ Kd.R (Kd.int .u8) 5 w' w.heap.size (fun _ => True) v [49] ∧ Below w.heap.size w w' := by
  go_enter Tryd.func75, Tryd.ntmps75
  go_wp2_with (fail)
  refine (small1 w).mono ?_
  rintro e w' ⟨rfl, rfl⟩
  go_wp2_with ((with_reducible refine gate_builtin (b := .append) (xs := #[.tmp 13, .tmp 16]) rfl ?_); at_builtin; refine print_append_str (w0 := w') w'.heap.size rfl (.tmp 13) _ 50 9 5 rfl Tryd.underlying50 Tryd.underlying9 info5 (.slice none 0 0) [] ⟨#[49]⟩ rfl rfl (own_nil _ _ _ _) (Below.refl _ _) (Nat.le_refl _) (by decide) ?_; intro v1 w1 ho hb hg)
  go_ret
  exact ⟨_, rfl, Kd.R_of_own ho (fun _ _ => trivial), hb⟩
theorem appendInt1 (w : World) : Calls Tryd.prog 48 #[.slice none 0 0, .int .i64 1, .int .i64 10] w fun e w' => ∃ v, e = .returned v ∧ Kd.R (Kd.int .u8) 5 w' w.heap.size (fun _ => True) v [49] ∧ Below w.heap.size w w' := by
  have h65 : Calls Tryd.prog 65 #[.slice none 0 0, .int .i64 1, .int .i64 10] w fun e w' => ∃ v, e = .returned v ∧ Kd.R (Kd.int .u8) 5 w' w.heap.size (fun _ => True) v [49] ∧ Below w.heap.size w w' := by
    go_enter Tryd.func65, Tryd.ntmps65
    go_wp2_with (fail)
    refine (appendUint1 w).mono ?_
    rintro e w' ⟨v, rfl, hr, hb⟩
    go_wp2_with (fail)
    go_ret
    exact ⟨_, rfl, hr, hb⟩
  go_enter Tryd.func48, Tryd.ntmps48
  go_wp2_with (fail)
  refine h65.mono ?_
  rintro e w' ⟨v, rfl, hr, hb⟩
  go_wp2_with (fail)
  go_ret
  exact ⟨_, rfl, hr, hb⟩
/-- Text of a text of one letter. -/
def text1 (s : ByteArray) : List Int := [49, 58] ++ bytesOf s
set_option maxRecDepth 100000 in
theorem text_any (s : ByteArray) (hs : s.size = 1) (w : World) : Calls Tryd.prog 32 #[.string s] w fun e w' => ∃ v, e = .returned v ∧ Kd.R (Kd.int .u8) 5 w' w.heap.size (fun _ => True) v (text1 s) ∧ Below w.heap.size w w' := by
  have hsi : (s.size : Int) = 1 := by omega
  go_enter Tryd.func32, Tryd.ntmps32
  go_wp2_with (fail)
  refine (appendInt1 w).mono ?_
  rintro e w1 ⟨v, rfl, hr, hb⟩
  have HR := Aside0.mk hr
  have HB := Aside0.mk hb
  clear hr hb
  go_wp2_with (first
    | ((with_reducible refine gate_builtin (b := .append) (xs := #[.tmp 5, .tmp 6]) rfl ?_); at_builtin; refine Kd.R_append (Kd.int .u8) (w0 := w) w.heap.size rfl (.tmp 5) (.tmp 6) 50 5 (.int .u8 0) 1 rfl Tryd.underlying50 info5 rfl (by decide) (by omega) v [49] 58 [.int .u8 58] (fun _ => True) (fun _ => False) rfl rfl rfl (fun _ hk => hk.elim) (fun _ _ => trivial) HR.out HB.out HB.out.size (by decide) ?_; intro v2 w2 ho2 hb2 hg2 hat2; have HR2 := Aside0.mk ho2; have HB2 := Aside0.mk hb2; clear ho2 hb2 hg2 hat2)
    | ((with_reducible refine gate_builtin (b := .append) (xs := #[.tmp 7, .tmp 8]) rfl ?_); at_builtin; refine print_append_str (w0 := w) w.heap.size rfl (.tmp 7) _ 50 9 5 rfl Tryd.underlying50 Tryd.underlying9 info5 v2 ([49] ++ [58]) s rfl rfl (Kd.own_of_R HR2.out) HB2.out HB2.out.size (by simp; omega) ?_; intro v3 w3 ho hb hg))
  go_ret
  exact ⟨_, rfl, Kd.R_of_own ho (fun _ _ => trivial), hb⟩
end Go.Proofs.YtjgommaikaeobaaDoor.L
