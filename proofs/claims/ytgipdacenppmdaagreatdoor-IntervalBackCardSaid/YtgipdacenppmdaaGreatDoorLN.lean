/- The library's tables and errors, as the rows lay them; an interval as an argument. -/
import Derived.Test.YtgipdacenppmdaaGreatDoorIA
import Derived.Test.YtgipdacenppmdaaGreatDoorRows
import Derived.Test.YtgipdacenppmdaaGreatDoorOpens
import Derived.Lib.LaidTab
import Derived.Stop.LaidErr
set_option linter.unusedVariables false
set_option linter.unusedSimpArgs false
namespace Go.Proofs.YtgipdacenppmdaaGreatDoor.G
open Go.RowKit Go.Lib Go.Proofs.YtgipdacenppmdaaGreatDoorW.PrintWords Go.Proofs.YtgipdacenppmdaaGreatDoor.P
theorem pow_data : (Rows.laid_internal_strconv_uint64pow10 : DataW Unit) = Lib.tabData .u64 Lib.pow10Tab := by kernel_rfl
theorem pow_of {W : World} {rest : List (String × DataW Unit)} (h : laidMet Tryz.prog (("internal/strconv.uint64pow10", Rows.laid_internal_strconv_uint64pow10) :: rest) W) : Lib.TabIs Tryz.prog W "internal/strconv.uint64pow10" .u64 Lib.pow10Tab := by
  rw [pow_data] at h
  exact Lib.tabIs_of_head (g := 6) (by kernel_rfl) (by kernel_rfl) Tryz.underlying169 Tryz.underlying106 (by kernel_rfl) (by kernel_rfl) h
theorem spc_data : (Rows.laid_strings_asciiSpace : DataW Unit) = Lib.tabData .u8 Lib.asciiSpaceTab := by kernel_rfl
theorem spc_of {W : World} {rest : List (String × DataW Unit)} (h : laidMet Tryz.prog (("strings.asciiSpace", Rows.laid_strings_asciiSpace) :: rest) W) : Lib.TabIs Tryz.prog W "strings.asciiSpace" .u8 Lib.asciiSpaceTab := by
  rw [spc_data] at h
  exact Lib.tabIs_of_head (g := 1) (by kernel_rfl) (by kernel_rfl) Tryz.underlying118 Tryz.underlying5 (by kernel_rfl) (by kernel_rfl) h
theorem ahd_data : (Rows.laid_watchfire_civil_ahead : DataW Unit) = Lib.tabData .i64 aheadTab := by kernel_rfl
theorem ahd_of {W : World} {rest : List (String × DataW Unit)} (h : laidMet Tryz.prog (("watchfire/civil.ahead", Rows.laid_watchfire_civil_ahead) :: rest) W) : Lib.TabIs Tryz.prog W "watchfire/civil.ahead" .i64 aheadTab := by
  rw [ahd_data] at h
  exact Lib.tabIs_of_head (g := 0) (by kernel_rfl) (by kernel_rfl) Tryz.underlying116 Tryz.underlying3 (by kernel_rfl) (by kernel_rfl) h
theorem cellsE : Tryz.prog.cellsOf 177 = 1 := by kernel_rfl
theorem cellsS : Tryz.prog.cellsOf 9 = 1 := by kernel_rfl
theorem star : "*" ++ "errors.errorString" = "*errors.errorString" := by decide
theorem rowE (u : TypeId) (h : Tryz.prog.typeName? 3 u = some "*errors.errorString") : u = 175 :=
  typeName_ptr_named (nm := "errors.errorString") (by rw [star]; kernel_rfl) (by kernel_rfl) (by decide) u (by rw [star]; exact h)
theorem syn_of {W : World} {rest : List (String × DataW Unit)} (h : laidMet Tryz.prog (("strconv.ErrSyntax", Rows.laid_strconv_ErrSyntax) :: rest) W) : ∃ tp p, W.var? Tryz.prog "strconv.ErrSyntax" = some #[.iface tp p] := by
  obtain ⟨a, s, hv, _⟩ := laid_sentinel h (g := 4) (by kernel_rfl) (by kernel_rfl) Tryz.underlying74 rowE Tryz.underlying175 Tryz.underlying177 rfl rfl Tryz.underlying9 cellsE cellsS
  exact ⟨_, _, hv⟩
theorem rng_of {W : World} {rest : List (String × DataW Unit)} (h : laidMet Tryz.prog (("strconv.ErrRange", Rows.laid_strconv_ErrRange) :: rest) W) : ∃ tp p, W.var? Tryz.prog "strconv.ErrRange" = some #[.iface tp p] := by
  obtain ⟨a, s, hv, _⟩ := laid_sentinel h (g := 5) (by kernel_rfl) (by kernel_rfl) Tryz.underlying74 rowE Tryz.underlying175 Tryz.underlying177 rfl rfl Tryz.underlying9 cellsE cellsS
  exact ⟨_, _, hv⟩
/-- The rows' laid list. -/
def laidL : List (String × DataW Unit) := [("math/bits.deBruijn32tab", Rows.laid_math_bits_deBruijn32tab), ("math/bits.deBruijn64tab", Rows.laid_math_bits_deBruijn64tab), ("internal/strconv.uint64pow10", Rows.laid_internal_strconv_uint64pow10), ("unicode/utf8.acceptRanges", Rows.laid_unicode_utf8_acceptRanges), ("watchfire/civil.ahead", Rows.laid_watchfire_civil_ahead), ("strconv.ErrRange", Rows.laid_strconv_ErrRange), ("strconv.ErrSyntax", Rows.laid_strconv_ErrSyntax), ("unicode.White_Space", Rows.laid_unicode_White_Space), ("strings.asciiSpace", Rows.laid_strings_asciiSpace), ("unicode/utf8.first", Rows.laid_unicode_utf8_first)]
theorem tabs_of {W : World} (h : laidMet Tryz.prog laidL W) (hs : W.ShapedOpen Tryz.prog) : TabS W :=
  ⟨pow_of (laidMet.tail (laidMet.tail h)), spc_of (laidMet.tail (laidMet.tail (laidMet.tail (laidMet.tail (laidMet.tail (laidMet.tail (laidMet.tail (laidMet.tail h)))))))),
   ahd_of (laidMet.tail (laidMet.tail (laidMet.tail (laidMet.tail h)))), Tryz.laysM219.s1_3 W hs,
   syn_of (laidMet.tail (laidMet.tail (laidMet.tail (laidMet.tail (laidMet.tail (laidMet.tail h)))))), rng_of (laidMet.tail (laidMet.tail (laidMet.tail (laidMet.tail (laidMet.tail h)))))⟩
def In64 (n : Int) : Prop := -9223372036854775808 ≤ n ∧ n ≤ 9223372036854775807
def RgOk (x : S55) : Prop := In64 x.f0 ∧ In64 x.f1
def IvOk (x : S24) : Prop := x.f0.size ≤ maxLen ∧ In64 x.f6
theorem in64_of {n : Int} (h : (Lit.int .i64 n).wf = true) : In64 n := by
  simp only [Lit.wf, Bool.and_eq_true, decide_eq_true_eq] at h
  have h1 := h.1
  have h2 := h.2
  simp [IntKind.min, IntKind.max, IntKind.bits, IntKind.signed] at h1 h2
  unfold In64
  omega
theorem openRange {H : Type} {enc : TypeId × Value → H} {w : World} {base : Nat} {spare : Nat → Bool} {held : Bool} : Opn.Opens enc Tryz.prog w base spare held 55 k55 RgOk :=
  (Opn.Opens.iso (Opn.Opens.struct Tryz.underlying55 (by kernel_rfl) (Opn.OpT.cons (off := 1) (Opn.Opens.int Tryz.underlying3) (by kernel_rfl) rfl (Opn.OpT.one (Opn.Opens.int Tryz.underlying3) (by kernel_rfl))))
    (fun x : S55 => (x.f0, x.f1)) (fun p => ⟨p.1, p.2⟩) (fun _ => rfl)).imp fun a h => ⟨in64_of h.1, in64_of h.2⟩
theorem openRanges {H : Type} {enc : TypeId × Value → H} {w : World} {base : Nat} {spare : Nat → Bool} {held : Bool} : Opn.Opens enc Tryz.prog w base spare held 22 (Kd.slice 55 k55) (fun l => l.length ≤ maxLen) :=
  (Opn.Opens.slice 55 Tryz.underlying22 (by kernel_rfl) openRange).imp fun a h => h.2
theorem openIv {H : Type} {enc : TypeId × Value → H} {w : World} {base : Nat} {spare : Nat → Bool} {held : Bool} : Opn.Opens enc Tryz.prog w base spare held 24 k24 IvOk :=
  (Opn.Opens.iso (Opn.Opens.struct Tryz.underlying24 (by kernel_rfl) (Opn.OpT.cons (off := 1) (Opn.Opens.string Tryz.underlying9) (by kernel_rfl) rfl (Opn.OpT.cons (off := 2) openRanges (by kernel_rfl) rfl (Opn.OpT.cons (off := 3) openRanges (by kernel_rfl) rfl (Opn.OpT.cons (off := 4) openRanges (by kernel_rfl) rfl (Opn.OpT.cons (off := 5) openRanges (by kernel_rfl) rfl (Opn.OpT.cons (off := 6) openRanges (by kernel_rfl) rfl (Opn.OpT.one (Opn.Opens.int Tryz.underlying3) (by kernel_rfl)))))))))
    (fun x : S24 => (x.f0, x.f1, x.f2, x.f3, x.f4, x.f5, x.f6)) (fun p => ⟨p.1, p.2.1, p.2.2.1, p.2.2.2.1, p.2.2.2.2.1, p.2.2.2.2.2.1, p.2.2.2.2.2.2⟩) (fun _ => rfl)).imp fun a h => ⟨h.1, in64_of h.2.2.2.2.2.2⟩
theorem openIvs {H : Type} {enc : TypeId × Value → H} {w : World} {base : Nat} {spare : Nat → Bool} {held : Bool} : Opn.Opens enc Tryz.prog w base spare held 44 (Kd.slice 24 k24) (fun l => (∀ x ∈ l, IvOk x) ∧ l.length ≤ maxLen) :=
  Opn.Opens.slice 24 Tryz.underlying44 (by kernel_rfl) openIv
/-- A struct's cells as a value. -/
theorem agg_of {v : Value} {cs : List Value} (h : v.cells.toList = cs) (hl : 2 ≤ cs.length) : v = .agg cs.toArray := by
  cases v with
  | agg a => simp [Value.cells] at h; rw [← h]
  | _ => simp [Value.cells] at h; subst h; simp at hl
end Go.Proofs.YtgipdacenppmdaaGreatDoor.G
