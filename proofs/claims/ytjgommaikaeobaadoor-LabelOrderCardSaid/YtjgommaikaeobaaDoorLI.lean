/- LabelChecks in memory; and a pair, opened from the row's reading. -/
import Derived.Test.YtjgommaikaeobaaDoorLH
import Derived.Test.YtjgommaikaeobaaDoorOpens
set_option linter.unusedVariables false
set_option linter.unusedSimpArgs false
namespace Go.Proofs.YtjgommaikaeobaaDoor.L
open Go.RowKit Go.Shelf Go.Lib Go.Proofs.YtjgommaikaeobaaDoorW.PrintWords Go.Proofs.YtjgommaikaeobaaDoor.PLabelSorts Go.Proofs.YtjgommaikaeobaaDoor.R

theorem checks_any (s : ByteArray) (A : Option Addr) (c : Nat) (l : List S35) (w : World) (hs : s.size ≤ 9223372036854775807) (h : Kd.C k35 w A l.length l) (hcap : l.length ≤ c) (hf : Fit l) :
    Calls Tryd.prog 3 #[.string s, .slice A l.length c] w fun e w' => e = .returned (.bool true) ∧ Below w.heap.size w w' := by
  have H := Aside0.mk h
  have HF := Aside0.mk hf
  clear h hf
  have H1 := Aside0.mk (fun w => lname_any s w)
  have H2 := Aside0.mk (fun w => wname_any s hs w)
  generalize nameB s = nb at H1 H2
  obtain ⟨ce, hce⟩ : ∃ ce, ce = checkE l := ⟨_, rfl⟩
  have HCE := Aside0.mk hce
  clear hce
  go_enter Tryd.func3, Tryd.ntmps3
  go_wp2_with (fail)
  refine (H1.out w).mono ?_
  rintro e w1 ⟨rfl, hb⟩
  have HB1 := Aside0.mk hb.below
  clear hb
  go_wp2_with (fail)
  refine (H2.out w1).mono ?_
  rintro e w2 ⟨rfl, hb⟩
  have HB2 := Aside0.mk (below_then HB1.out HB1.out.size hb.below)
  clear hb
  go_wp2_with (fail)
  have hk := check_any A c l w2 (Kd.C_below H.out HB2.out)
  rw [← HCE.out] at hk
  refine hk.mono ?_
  rintro e w3 ⟨rfl, hb⟩
  have HB3 := Aside0.mk (below_then HB2.out HB2.out.size hb)
  clear hb hk
  go_wp2_with (fail)
  have hk := wcheck_any A c l w3 (Kd.C_below H.out HB3.out) hcap HF.out
  rw [← HCE.out] at hk
  refine hk.mono ?_
  rintro e w4 ⟨rfl, hb⟩
  have HB4 := Aside0.mk (below_then HB3.out HB3.out.size hb)
  clear hb hk
  go_wp2_with (fail)
  refine (awake_any w4).mono ?_
  rintro e w5 ⟨rfl, hb⟩
  have HB5 := Aside0.mk (below_then HB4.out HB4.out.size hb)
  clear hb
  go_wp2_with (fail)
  go_ret
  exact ⟨by simp, HB5.out⟩

theorem open35 {H : Type} {enc : TypeId × Value → H} {w : World} {base : Nat} {spare : Nat → Bool} {held : Bool} : Opn.Opens enc Tryd.prog w base spare held 35 k35 (fun x => x.f0.size ≤ 9223372036854775807 ∧ x.f1.size ≤ 9223372036854775807) :=
  (Opn.Opens.iso (Opn.Opens.struct Tryd.underlying35 (by kernel_rfl) (Opn.OpT.cons (off := 1) (Opn.Opens.string Tryd.underlying9) (by kernel_rfl) rfl (Opn.OpT.one (Opn.Opens.string Tryd.underlying9) (by kernel_rfl))))
    (fun x : S35 => (x.f0, x.f1)) (fun p => ⟨p.1, p.2⟩) (fun _ => rfl)).imp (fun y h => ⟨h.1, h.2⟩)
theorem openPairs {H : Type} {enc : TypeId × Value → H} {w : World} {base : Nat} {spare : Nat → Bool} {held : Bool} : Opn.Opens enc Tryd.prog w base spare held 22 (Kd.slice 35 k35) (fun l => Fit l ∧ l.length ≤ maxLen) :=
  Opn.Opens.slice 35 Tryd.underlying22 (by kernel_rfl) open35
end Go.Proofs.YtjgommaikaeobaaDoor.L
