/- The library's tables and errors, as the rows lay them; an interval as an argument. -/
import Derived.Test.YtgipdacenppmdaaDoorIA
import Derived.Test.YtgipdacenppmdaaDoorRows
import Derived.Test.YtgipdacenppmdaaDoorOpens
import Derived.Lib.LaidTab
import Derived.Stop.LaidErr
set_option linter.unusedVariables false
set_option linter.unusedSimpArgs false
namespace Go.Proofs.YtgipdacenppmdaaDoor.G
open Go.RowKit Go.Lib Go.Proofs.YtgipdacenppmdaaDoorW.PrintWords Go.Proofs.YtgipdacenppmdaaDoor.P
theorem pow_data : (Rows.laid_internal_strconv_uint64pow10 : DataW Unit) = Lib.tabData .u64 Lib.pow10Tab := by kernel_rfl
theorem pow_of {W : World} {rest : List (String × DataW Unit)} (h : laidMet Tryd.prog (("internal/strconv.uint64pow10", Rows.laid_internal_strconv_uint64pow10) :: rest) W) : Lib.TabIs Tryd.prog W "internal/strconv.uint64pow10" .u64 Lib.pow10Tab := by
  rw [pow_data] at h
  exact Lib.tabIs_of_head (g := 8) (by kernel_rfl) (by kernel_rfl) Tryd.underlying149 Tryd.underlying103 (by kernel_rfl) (by kernel_rfl) h
theorem spc_data : (Rows.laid_strings_asciiSpace : DataW Unit) = Lib.tabData .u8 Lib.asciiSpaceTab := by kernel_rfl
theorem spc_of {W : World} {rest : List (String × DataW Unit)} (h : laidMet Tryd.prog (("strings.asciiSpace", Rows.laid_strings_asciiSpace) :: rest) W) : Lib.TabIs Tryd.prog W "strings.asciiSpace" .u8 Lib.asciiSpaceTab := by
  rw [spc_data] at h
  exact Lib.tabIs_of_head (g := 4) (by kernel_rfl) (by kernel_rfl) Tryd.underlying110 Tryd.underlying5 (by kernel_rfl) (by kernel_rfl) h
theorem ahd_data : (Rows.laid_watchfire_civil_ahead : DataW Unit) = Lib.tabData .i64 aheadTab := by kernel_rfl
theorem ahd_of {W : World} {rest : List (String × DataW Unit)} (h : laidMet Tryd.prog (("watchfire/civil.ahead", Rows.laid_watchfire_civil_ahead) :: rest) W) : Lib.TabIs Tryd.prog W "watchfire/civil.ahead" .i64 aheadTab := by
  rw [ahd_data] at h
  exact Lib.tabIs_of_head (g := 0) (by kernel_rfl) (by kernel_rfl) Tryd.underlying82 Tryd.underlying3 (by kernel_rfl) (by kernel_rfl) h
theorem cellsE : Tryd.prog.cellsOf 120 = 1 := by kernel_rfl
theorem cellsS : Tryd.prog.cellsOf 9 = 1 := by kernel_rfl
theorem star : "*" ++ "errors.errorString" = "*errors.errorString" := by decide
theorem rowE (u : TypeId) (h : Tryd.prog.typeName? 3 u = some "*errors.errorString") : u = 118 :=
  typeName_ptr_named (nm := "errors.errorString") (by rw [star]; kernel_rfl) (by kernel_rfl) (by decide) u (by rw [star]; exact h)
theorem syn_of {W : World} {rest : List (String × DataW Unit)} (h : laidMet Tryd.prog (("strconv.ErrSyntax", Rows.laid_strconv_ErrSyntax) :: rest) W) : ∃ tp p, W.var? Tryd.prog "strconv.ErrSyntax" = some #[.iface tp p] := by
  obtain ⟨a, s, hv, _⟩ := laid_sentinel h (g := 2) (by kernel_rfl) (by kernel_rfl) Tryd.underlying62 rowE Tryd.underlying118 Tryd.underlying120 rfl rfl Tryd.underlying9 cellsE cellsS
  exact ⟨_, _, hv⟩
theorem rng_of {W : World} {rest : List (String × DataW Unit)} (h : laidMet Tryd.prog (("strconv.ErrRange", Rows.laid_strconv_ErrRange) :: rest) W) : ∃ tp p, W.var? Tryd.prog "strconv.ErrRange" = some #[.iface tp p] := by
  obtain ⟨a, s, hv, _⟩ := laid_sentinel h (g := 3) (by kernel_rfl) (by kernel_rfl) Tryd.underlying62 rowE Tryd.underlying118 Tryd.underlying120 rfl rfl Tryd.underlying9 cellsE cellsS
  exact ⟨_, _, hv⟩
/-- The rows' laid list. -/
def laidL : List (String × DataW Unit) := [("math/bits.deBruijn32tab", Rows.laid_math_bits_deBruijn32tab), ("math/bits.deBruijn64tab", Rows.laid_math_bits_deBruijn64tab), ("internal/strconv.uint64pow10", Rows.laid_internal_strconv_uint64pow10), ("unicode/utf8.acceptRanges", Rows.laid_unicode_utf8_acceptRanges), ("watchfire/civil.ahead", Rows.laid_watchfire_civil_ahead), ("strconv.ErrRange", Rows.laid_strconv_ErrRange), ("strconv.ErrSyntax", Rows.laid_strconv_ErrSyntax), ("unicode.White_Space", Rows.laid_unicode_White_Space), ("strings.asciiSpace", Rows.laid_strings_asciiSpace), ("unicode/utf8.first", Rows.laid_unicode_utf8_first)]
theorem tabs_of {W : World} (h : laidMet Tryd.prog laidL W) (hs : W.ShapedOpen Tryd.prog) : TabS W :=
  ⟨pow_of (laidMet.tail (laidMet.tail h)), spc_of (laidMet.tail (laidMet.tail (laidMet.tail (laidMet.tail (laidMet.tail (laidMet.tail (laidMet.tail (laidMet.tail h)))))))),
   ahd_of (laidMet.tail (laidMet.tail (laidMet.tail (laidMet.tail h)))), Tryd.laysM219.s1_3 W hs,
   syn_of (laidMet.tail (laidMet.tail (laidMet.tail (laidMet.tail (laidMet.tail (laidMet.tail h)))))), rng_of (laidMet.tail (laidMet.tail (laidMet.tail (laidMet.tail (laidMet.tail h)))))⟩
def In64 (n : Int) : Prop := -9223372036854775808 ≤ n ∧ n ≤ 9223372036854775807
def RgOk (x : S37) : Prop := In64 x.f0 ∧ In64 x.f1
def IvOk (x : S24) : Prop := x.f0.size ≤ maxLen ∧ In64 x.f6
theorem in64_of {n : Int} (h : (Lit.int .i64 n).wf = true) : In64 n := by
  simp only [Lit.wf, Bool.and_eq_true, decide_eq_true_eq] at h
  have h1 := h.1
  have h2 := h.2
  simp [IntKind.min, IntKind.max, IntKind.bits, IntKind.signed] at h1 h2
  unfold In64
  omega
theorem openRange {H : Type} {enc : TypeId × Value → H} {w : World} {base : Nat} {spare : Nat → Bool} {held : Bool} : Opn.Opens enc Tryd.prog w base spare held 37 k37 RgOk :=
  (Opn.Opens.iso (Opn.Opens.struct Tryd.underlying37 (by kernel_rfl) (Opn.OpT.cons (off := 1) (Opn.Opens.int Tryd.underlying3) (by kernel_rfl) rfl (Opn.OpT.one (Opn.Opens.int Tryd.underlying3) (by kernel_rfl))))
    (fun x : S37 => (x.f0, x.f1)) (fun p => ⟨p.1, p.2⟩) (fun _ => rfl)).imp fun a h => ⟨in64_of h.1, in64_of h.2⟩
theorem openRanges {H : Type} {enc : TypeId × Value → H} {w : World} {base : Nat} {spare : Nat → Bool} {held : Bool} : Opn.Opens enc Tryd.prog w base spare held 22 (Kd.slice 37 k37) (fun l => l.length ≤ maxLen) :=
  (Opn.Opens.slice 37 Tryd.underlying22 (by kernel_rfl) openRange).imp fun a h => h.2
theorem openIv {H : Type} {enc : TypeId × Value → H} {w : World} {base : Nat} {spare : Nat → Bool} {held : Bool} : Opn.Opens enc Tryd.prog w base spare held 24 k24 IvOk :=
  (Opn.Opens.iso (Opn.Opens.struct Tryd.underlying24 (by kernel_rfl) (Opn.OpT.cons (off := 1) (Opn.Opens.string Tryd.underlying9) (by kernel_rfl) rfl (Opn.OpT.cons (off := 2) openRanges (by kernel_rfl) rfl (Opn.OpT.cons (off := 3) openRanges (by kernel_rfl) rfl (Opn.OpT.cons (off := 4) openRanges (by kernel_rfl) rfl (Opn.OpT.cons (off := 5) openRanges (by kernel_rfl) rfl (Opn.OpT.cons (off := 6) openRanges (by kernel_rfl) rfl (Opn.OpT.one (Opn.Opens.int Tryd.underlying3) (by kernel_rfl)))))))))
    (fun x : S24 => (x.f0, x.f1, x.f2, x.f3, x.f4, x.f5, x.f6)) (fun p => ⟨p.1, p.2.1, p.2.2.1, p.2.2.2.1, p.2.2.2.2.1, p.2.2.2.2.2.1, p.2.2.2.2.2.2⟩) (fun _ => rfl)).imp fun a h => ⟨h.1, in64_of h.2.2.2.2.2.2⟩
/-- A struct's cells as a value. -/
theorem agg_of {v : Value} {cs : List Value} (h : v.cells.toList = cs) (hl : 2 ≤ cs.length) : v = .agg cs.toArray := by
  cases v with
  | agg a => simp [Value.cells] at h; rw [← h]
  | _ => simp [Value.cells] at h; subst h; simp at hl
end Go.Proofs.YtgipdacenppmdaaDoor.G
