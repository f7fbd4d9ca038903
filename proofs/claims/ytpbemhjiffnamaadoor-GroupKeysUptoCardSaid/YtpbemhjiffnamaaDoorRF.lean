/- Open, Close; a text as a reader's bytes. -/
import Derived.Test.YtpbemhjiffnamaaDoorRE
set_option linter.unusedVariables false
set_option linter.unusedSimpArgs false
namespace Go.Proofs.YtpbemhjiffnamaaDoor.RD
open Go.RowKit Go.Shelf Go.Lib Go.Proofs.YtpbemhjiffnamaaDoorW.PrintWords Go.Proofs.YtpbemhjiffnamaaDoorW.PrintMore Go.Proofs.YtpbemhjiffnamaaDoor.G Go.Proofs.YtpbemhjiffnamaaDoor.P
theorem open_any (g : Nat) (bs : List Int) (e : Int) (w : World) (h : RdAt w g bs e) :
    Calls Tryd.prog 24 #[.pointer (some ⟨g, 0, none⟩)] w fun en w' => en = .returned (.tuple #[]) ∧ RdAt w' g (skipF 108 bs e).1 (skipF 108 bs e).2 ∧ Fr w w' g := by
  have H := Aside0.mk (skip_any g 108 bs e w h)
  clear h
  go_enter Tryd.func24, Tryd.ntmps24
  go_wp2_with (fail)
  refine H.out.mono ?_
  rintro en w1 ⟨rfl, hr, hf⟩
  have HR := Aside0.mk hr
  have HF := Aside0.mk hf
  clear hr hf
  go_wp2_with (fail)
  go_end0
  exact ⟨rfl, HR.out, HF.out⟩
theorem close_any (g : Nat) (bs : List Int) (e : Int) (w : World) (h : RdAt w g bs e) :
    Calls Tryd.prog 29 #[.pointer (some ⟨g, 0, none⟩)] w fun en w' => en = .returned (.tuple #[]) ∧ RdAt w' g (skipF 101 bs e).1 (skipF 101 bs e).2 ∧ Fr w w' g := by
  have H := Aside0.mk (skip_any g 101 bs e w h)
  clear h
  go_enter Tryd.func29, Tryd.ntmps29
  go_wp2_with (fail)
  refine H.out.mono ?_
  rintro en w1 ⟨rfl, hr, hf⟩
  have HR := Aside0.mk hr
  have HF := Aside0.mk hf
  clear hr hf
  go_wp2_with (fail)
  go_end0
  exact ⟨rfl, HR.out, HF.out⟩
theorem skipF_len (x : Int) (bs : List Int) (e : Int) : (skipF x bs e).1.length ≤ bs.length := by
  unfold skipF
  split
  · exact Nat.le_refl _
  · split
    · exact Nat.zero_le _
    · split
      · simp
      · exact Nat.zero_le _
theorem untilF_len (bs : List Int) (e stop : Int) (long : Nat) : (untilF bs e stop long).2.2.1.length ≤ bs.length := by
  unfold untilF
  split
  · exact Nat.zero_le _
  · split
    · simp only [List.length_drop]; omega
    · exact Nat.zero_le _
theorem textF_len (bs : List Int) (e most : Int) : (textF bs e most).2.1.length ≤ bs.length := by
  unfold textF
  split
  · exact Nat.le_refl _
  · cases bs with
    | nil => exact Nat.zero_le _
    | cons b t =>
      have h := untilF_len (b :: t) 0 58 10
      simp only []
      split
      · exact Nat.zero_le _
      · split
        · exact h
        · split
          · exact Nat.zero_le _
          · split
            · exact Nat.zero_le _
            · split
              · exact Nat.zero_le _
              · simp only [List.length_drop]; omega
theorem bytesOf_bound (s : ByteArray) : ∀ b ∈ bytesOf s, 0 ≤ b ∧ b ≤ 255 := by
  intro b hb
  unfold bytesOf at hb
  obtain ⟨c, _, rfl⟩ := List.mem_map.1 hb
  have := c.toNat_lt
  omega
/-- The reader's row: Fr keeps whatever lies elsewhere. -/
theorem R_fr {α : Type} {d : Kd α} {t : Nat} {w w' : World} {base g : Nat} {v : Value} {xs : List α} (h : d.R t w base (fun k => k ≠ g) v xs) (hf : Fr w w' g) : d.R t w' base (fun k => k ≠ g) v xs := Kd.R_keep h hf.2 (fun _ hk => hk)
end Go.Proofs.YtpbemhjiffnamaaDoor.RD
