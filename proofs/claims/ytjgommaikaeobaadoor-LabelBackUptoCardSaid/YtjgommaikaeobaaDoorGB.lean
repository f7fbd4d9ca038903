/- ben.Text and ben.List, told as plain Lean functions, each with its contract; what is asked of the library's tables. -/
import Derived.Test.YtjgommaikaeobaaDoorGA
import Derived.Test.YtjgommaikaeobaaDoorLayB
import Derived.Test.YtjgommaikaeobaaDoorRF
set_option linter.unusedVariables false
set_option linter.unusedSimpArgs false
namespace Go.Proofs.YtjgommaikaeobaaDoor.G
open Go.RowKit Go.Shelf Go.Lib Go.Proofs.YtjgommaikaeobaaDoorW.PrintWords Go.Proofs.YtjgommaikaeobaaDoor.PLabelSorts Go.Proofs.YtjgommaikaeobaaDoor.R Go.Proofs.YtjgommaikaeobaaDoor.L

/-! ### Text -/
def numB (n : Int) : List Int := (Lib.itoa n).map fun b => (b.toNat : Int)
def textB (s : ByteArray) : List Int := numB s.size ++ [58] ++ bytesOf s
theorem nDigits_le : ∀ (k u : Nat), u < 10 ^ (k + 1) → nDigits u ≤ k + 1
  | 0, u, h => by rw [nDigits_small (by simpa using h)]; exact Nat.le_refl _
  | k + 1, u, h => by
    by_cases h0 : u < 10
    · rw [nDigits_small h0]; omega
    · rw [nDigits_big h0]
      have := nDigits_le k (u / 10) (by rw [Nat.pow_succ] at h; omega)
      omega
theorem itoa_nat (n : Nat) : Lib.itoa (n : Int) = decDigits n := by
  unfold Lib.itoa
  rw [if_neg (by omega), Int.toNat_natCast]
theorem itoa_len (n : Nat) (h : n ≤ 9223372036854775807) : (Lib.itoa n).length ≤ 19 := by
  rw [itoa_nat, decDigits_length]
  exact nDigits_le 18 n (Nat.lt_of_le_of_lt h (by decide))
theorem nums_bytes (l : List UInt8) : Lib.byteCells l = nums .u8 (l.map fun b => (b.toNat : Int)) := by
  simp [Lib.byteCells, nums]
theorem appendInt_nil (n : Nat) (hn : n ≤ 140737488351232) (w : World) (hT : TabS w) :
    Calls Tryd.prog 48 #[.slice none 0 0, .int .i64 (n : Int), .int .i64 10] w fun e w' => ∃ v, e = .returned v ∧ Kd.R (Kd.int .u8) 5 w' w.heap.size (fun _ => True) v (numB n) ∧ Below w.heap.size w w' := by
  refine (Tryd.strconv_AppendInt_10 w.heap.size 0 n (by omega) (by omega) (.slice none 0 0) [] w (World.ownsRow_nil _ _ _ _) (Nat.le_refl _) (by omega) (Lib.tabBelow_of_tabIs hT.pow)).mono ?_
  rintro e w' ⟨v, rfl, ho, hb, _⟩
  refine ⟨v, rfl, Kd.R_of_own ?_ (fun _ _ => trivial), hb⟩
  rw [Nat.zero_add, List.nil_append, nums_bytes] at ho
  have e : (numB n).length = (Lib.itoa n).length := by simp [numB]
  rw [e]
  exact ho
def BTextG.f (a0 : ByteArray) : Option (List Int) := if a0.size ≤ 140737488351232 then some (textB a0) else none
set_option maxRecDepth 100000 in
theorem text_all (s : ByteArray) (hs : s.size ≤ 140737488351232) (w : World) (hT : TabS w) : Calls Tryd.prog 32 #[.string s] w fun e w' => ∃ v, e = .returned v ∧ Kd.R (Kd.int .u8) 5 w' w.heap.size (fun _ => True) v (textB s) ∧ Below w.heap.size w w' := by
  have hl : (numB s.size).length ≤ 19 := by have := itoa_len s.size (by omega); simpa [numB] using this
  have HA := Aside0.mk (appendInt_nil s.size hs w hT)
  clear hT
  unfold textB
  obtain ⟨xs, hxs⟩ : ∃ xs, xs = numB s.size := ⟨_, rfl⟩
  rw [← hxs] at hl HA ⊢
  clear hxs
  go_enter Tryd.func32, Tryd.ntmps32
  go_wp2_with (fail)
  refine HA.out.mono ?_
  rintro e w1 ⟨v, rfl, hr, hb⟩
  have HR := Aside0.mk hr
  have HB := Aside0.mk hb
  clear hr hb HA
  go_wp2_with (first
    | ((with_reducible refine gate_builtin (b := .append) (xs := #[.tmp 5, .tmp 6]) rfl ?_); at_builtin; refine Kd.R_append (Kd.int .u8) (w0 := w) w.heap.size rfl (.tmp 5) (.tmp 6) 50 5 (.int .u8 0) 1 rfl Tryd.underlying50 info5 rfl (by decide) (by omega) v xs 58 [.int .u8 58] (fun _ => True) (fun _ => False) rfl rfl rfl (fun _ hk => hk.elim) (fun _ _ => trivial) HR.out HB.out HB.out.size (by omega) ?_; intro v2 w2 ho2 hb2 hg2 hat2; have HR2 := Aside0.mk ho2; have HB2 := Aside0.mk hb2; clear ho2 hb2 hg2 hat2)
    | ((with_reducible refine gate_builtin (b := .append) (xs := #[.tmp 7, .tmp 8]) rfl ?_); at_builtin; refine print_append_str (w0 := w) w.heap.size rfl (.tmp 7) _ 50 9 5 rfl Tryd.underlying50 Tryd.underlying9 info5 v2 (xs ++ [58]) s rfl rfl (Kd.own_of_R HR2.out) HB2.out HB2.out.size (by rw [List.length_append, List.length_singleton]; omega) ?_; intro v3 w3 ho hb hg))
  go_ret
  exact ⟨_, rfl, Kd.R_of_own ho (fun _ _ => trivial), hb⟩
theorem BTextG.calls (a0 : ByteArray) (r : List Int) (w : World) (hT : TabS w) (h : BTextG.f a0 = some r) :
    Calls Tryd.prog 32 #[.string a0] w fun e w' => ∃ v0_ : Value, e = .returned (v0_) ∧ Kd.R (Kd.int .u8) 5 w' w.heap.size (fun _ => True) v0_ r ∧ Below w.heap.size w w' := by
  unfold BTextG.f at h
  by_cases hs : a0.size ≤ 140737488351232
  · rw [if_pos hs] at h
    obtain rfl := Option.some.inj h
    exact text_all a0 hs w hT
  · rw [if_neg hs] at h; cases h
/-! ### List -/
def listB (ps : List (List Int)) : List Int := 108 :: ps.flatten ++ [101]
def BListG.f (l0 : List (List Int)) : Option (List Int) := if l0.length ≤ 1000000000 ∧ sumL l0 < 140737488355327 then some (listB l0) else none
theorem BListG.calls (A0 : Option Addr) (c0 : Nat) (l0 : List (List Int)) (r : List Int) (w : World) (hr0 : Kd.C (Kd.slice 5 (Kd.int .u8)) w A0 l0.length l0) (hc0 : l0.length ≤ c0) (h : BListG.f l0 = some r) :
    Calls Tryd.prog 33 #[.slice A0 l0.length c0] w fun e w' => ∃ v0_ : Value, e = .returned (v0_) ∧ Kd.R (Kd.int .u8) 5 w' w.heap.size (fun _ => True) v0_ r ∧ Below w.heap.size w w' := by
  unfold BListG.f at h
  by_cases hs : l0.length ≤ 1000000000 ∧ sumL l0 < 140737488355327
  · rw [if_pos hs] at h
    obtain rfl := Option.some.inj h
    exact list_any A0 c0 l0 w hr0 hc0 hs.1 hs.2
  · rw [if_neg hs] at h; cases h
theorem info9 : (Tryd.prog.info? 9).map (fun i => (i.zero, i.size, i.bytes)) = some (some (.string ⟨#[]⟩), 1, 16) := by kernel_rfl
end Go.Proofs.YtjgommaikaeobaaDoor.G
