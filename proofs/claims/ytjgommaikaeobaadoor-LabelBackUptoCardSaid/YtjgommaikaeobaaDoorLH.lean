/- awake holds in every world. -/
import Derived.Test.YtjgommaikaeobaaDoorLG
set_option linter.unusedVariables false
set_option linter.unusedSimpArgs false
namespace Go.Proofs.YtjgommaikaeobaaDoor.L
open Go.RowKit Go.Shelf Go.Lib Go.Proofs.YtjgommaikaeobaaDoorW.PrintWords Go.Proofs.YtjgommaikaeobaaDoor.PLabelSorts Go.Proofs.YtjgommaikaeobaaDoor.R

set_option maxHeartbeats 2000000 in
theorem awake_any (w : World) : Calls Tryd.prog 13 #[] w fun e w' => e = .returned (.bool true) ∧ Below w.heap.size w w' := by
  have HB0 := Aside0.mk (below_alloc (Below.refl w.heap.size w) (Obj.cells #[Value.string ⟨#[98]⟩, Value.string ⟨#[50]⟩, Value.string ⟨#[97]⟩, Value.string ⟨#[49]⟩] 35 (0, 0)))
  have HC0 := Aside0.mk (lit2 (blk_new w (Obj.cells #[Value.string ⟨#[98]⟩, Value.string ⟨#[50]⟩, Value.string ⟨#[97]⟩, Value.string ⟨#[49]⟩] 35 (0, 0))))
  go_enter Tryd.func13, Tryd.ntmps13
  go_wp2_with (fail)
  refine (sort_any (some ⟨w.heap.size, 0, none⟩) 2 [pb, pa] _ HC0.out (by simp)).mono ?_
  rintro e w1 ⟨hs, hb⟩
  have HB1 := Aside0.mk (below_then HB0.out HB0.out.size hb)
  clear hb
  rcases hs with ⟨hs, _⟩ | ⟨_, l', hp, hs, ⟨hr, _⟩ | ⟨_, v, rfl, hr⟩⟩
  · exact absurd parts_ba hs
  · rw [ba_sorted hp hs, rises_ab] at hr; cases hr
  · rw [ba_sorted hp hs] at hr
    clear hp hs
    obtain ⟨A', c', rfl, hc', hC'⟩ := Kd.R_reads hr
    have HC1 := Aside0.mk hC'
    have hl2 : ([pa, pb] : List S35).length = 2 := rfl
    rw [hl2] at hc'
    clear hr hC'
    simp only [hl2]
    clear hl2
    go_wp2_with (fail)
    refine (key_any A' c' [pa, pb] w1 HC1.out (by simp) (by intro x hx; simp at hx; rcases hx with rfl | rfl <;> exact ⟨rfl, rfl⟩) (by decide)).mono ?_
    rw [key_ab]
    rintro e w2 ⟨rfl, hb⟩
    have HB2 := Aside0.mk (below_then HB1.out HB1.out.size hb)
    have HC2 := Aside0.mk (Kd.C_below HC1.out hb)
    clear hb
    go_wp2_with (fail)
    refine (LGet.calls 3 A' c' [pa, pb] _ _ w2 HC2.out hc' get_ab).mono ?_
    rintro e w3 ⟨rfl, hb⟩
    have HB3 := Aside0.mk (below_then HB2.out HB2.out.size hb)
    clear hb
    go_wp2_with (fail)
    have HB4 := Aside0.mk (HB3.out.alloc HB3.out.size (Obj.cells #[Value.string ⟨#[97]⟩, Value.string ⟨#[]⟩] 35 (0, 0)))
    have HC4 := Aside0.mk (lit1 (blk_new w3 (Obj.cells #[Value.string ⟨#[97]⟩, Value.string ⟨#[]⟩] 35 (0, 0))))
    have hck := check_any (some ⟨w3.heap.size, 0, none⟩) 1 [p0] _ HC4.out
    rw [check_p0] at hck
    refine hck.mono ?_
    rintro e w5 ⟨rfl, hb⟩
    have HB5 := Aside0.mk (below_then HB4.out HB4.out.size hb)
    clear hb hck
    go_wp2_with (fail)
    go_ret
    exact ⟨rfl, HB5.out⟩
end Go.Proofs.YtjgommaikaeobaaDoor.L
