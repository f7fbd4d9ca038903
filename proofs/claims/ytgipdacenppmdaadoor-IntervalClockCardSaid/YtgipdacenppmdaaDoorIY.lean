/- awake. -/
import Derived.Test.YtgipdacenppmdaaDoorIX
import Derived.Test.YtgipdacenppmdaaDoorIB
set_option linter.unusedVariables false
namespace Go.Proofs.YtgipdacenppmdaaDoor.G
open Go.RowKit Go.Shelf Go.Lib Go.Sort Go.Proofs.YtgipdacenppmdaaDoorW.PrintWords Go.Proofs.YtgipdacenppmdaaDoor.P
def aw1 : ByteArray := ⟨#[110, 105, 103, 104, 116, 32, 116, 105, 109, 101, 115, 61, 50, 50, 58, 48, 48, 46, 46, 50, 52, 58, 48, 48, 44, 48, 48, 58, 48, 48, 46, 46, 48, 54, 58, 48, 48]⟩
def aw2 : ByteArray := ⟨#[120, 32, 119, 101, 101, 107, 100, 97, 121, 115, 61, 102, 114, 105, 46, 46, 109, 111, 110]⟩
def aw3 : ByteArray := ⟨#[108, 97, 115, 116, 32, 100, 97, 121, 115, 61, 45, 51, 46, 46, 45, 49]⟩
theorem aw2_read : IRead.f aw2 = some (⟨#[]⟩, [], [], [], [], [], 0, 4) := by kernel_rfl
theorem aw3_read : IRead.f aw3 = some (⟨#[108, 97, 115, 116]⟩, [], [], [⟨-3, -1⟩], [], [], 0, 0) := by kernel_rfl
theorem aw1_read : IRead.f aw1 = some (⟨#[110, 105, 103, 104, 116]⟩, [], [], [], [], [⟨1320, 1440⟩, ⟨0, 360⟩], 0, 0) := by kernel_rfl
theorem aw1_has : IHas.f ⟨#[110, 105, 103, 104, 116]⟩ [] [] [] [] [⟨1320, 1440⟩, ⟨0, 360⟩] 0 82800 = some true := by kernel_rfl
theorem aw1_not : IHas.f ⟨#[110, 105, 103, 104, 116]⟩ [] [] [] [] [⟨1320, 1440⟩, ⟨0, 360⟩] 0 25200 = some false := by kernel_rfl
theorem aw3_has : IHas.f ⟨#[108, 97, 115, 116]⟩ [] [] [⟨-3, -1⟩] [] [] 0 2419200 = some true := by kernel_rfl
theorem aw3_not : IHas.f ⟨#[108, 97, 115, 116]⟩ [] [] [⟨-3, -1⟩] [] [] 0 2332800 = some false := by kernel_rfl
def IAwake.f : Option (Bool) := some true
set_option maxHeartbeats 8000000 in
set_option maxRecDepth 100000 in
theorem IAwake.calls (r : Bool) (w : World) (hT : TabS w) (h : IAwake.f = some r) :
    Calls Tryd.prog 8 #[] w fun e w' => e = .returned (.bool r) ∧ Below w.heap.size w w' := by
  obtain rfl : true = r := Option.some.inj h
  have HT := Aside0.mk hT
  clear hT h
  go_enter Tryd.func8, Tryd.ntmps8
  go_wp2_with (fail)
  refine (IRead.calls aw1 _ _ _ _ _ _ _ _ w HT.out aw1_read).mono ?_
  rintro e w1 ⟨v1, v2, v3, v4, v5, rfl, h1, h2, h3, h4, h5, hb⟩
  have HBa := Aside0.mk hb
  clear hb
  obtain ⟨aA1, ac1, h, ahc1, hC⟩ := Kd.R_reads h1
  replace h : v1 = .slice aA1 0 ac1 := h
  subst h
  have aH1 := Aside0.mk hC
  clear h1 hC
  obtain ⟨aA2, ac2, h, ahc2, hC⟩ := Kd.R_reads h2
  replace h : v2 = .slice aA2 0 ac2 := h
  subst h
  have aH2 := Aside0.mk hC
  clear h2 hC
  obtain ⟨aA3, ac3, h, ahc3, hC⟩ := Kd.R_reads h3
  replace h : v3 = .slice aA3 0 ac3 := h
  subst h
  have aH3 := Aside0.mk hC
  clear h3 hC
  obtain ⟨aA4, ac4, h, ahc4, hC⟩ := Kd.R_reads h4
  replace h : v4 = .slice aA4 0 ac4 := h
  subst h
  have aH4 := Aside0.mk hC
  clear h4 hC
  obtain ⟨aA5, ac5, h, ahc5, hC⟩ := Kd.R_reads h5
  replace h : v5 = .slice aA5 2 ac5 := h
  subst h
  have aH5 := Aside0.mk hC
  clear h5 hC
  have HBa2 := Aside0.mk (below_alloc HBa.out (.cells #[.string ⟨#[110, 105, 103, 104, 116]⟩, .slice aA1 0 ac1, .slice aA2 0 ac2, .slice aA3 0 ac3, .slice aA4 0 ac4, .slice aA5 2 ac5, .int .i64 0] 24))
  have HPa := Aside0.mk (heap_alloc_new w1 (.cells #[.string ⟨#[110, 105, 103, 104, 116]⟩, .slice aA1 0 ac1, .slice aA2 0 ac2, .slice aA3 0 ac3, .slice aA4 0 ac4, .slice aA5 2 ac5, .int .i64 0] 24))
  go_wp2_with (fail)
  refine (IRead.calls aw2 _ _ _ _ _ _ _ _ _ (HT.out.below HBa2.out) aw2_read).mono ?_
  rintro e w2 ⟨v1, v2, v3, v4, v5, rfl, h1, h2, h3, h4, h5, hb⟩
  have HBb := Aside0.mk hb
  clear hb
  obtain ⟨bA1, bc1, h, bhc1, hC⟩ := Kd.R_reads h1
  replace h : v1 = .slice bA1 0 bc1 := h
  subst h
  have bH1 := Aside0.mk hC
  clear h1 hC
  obtain ⟨bA2, bc2, h, bhc2, hC⟩ := Kd.R_reads h2
  replace h : v2 = .slice bA2 0 bc2 := h
  subst h
  have bH2 := Aside0.mk hC
  clear h2 hC
  obtain ⟨bA3, bc3, h, bhc3, hC⟩ := Kd.R_reads h3
  replace h : v3 = .slice bA3 0 bc3 := h
  subst h
  have bH3 := Aside0.mk hC
  clear h3 hC
  obtain ⟨bA4, bc4, h, bhc4, hC⟩ := Kd.R_reads h4
  replace h : v4 = .slice bA4 0 bc4 := h
  subst h
  have bH4 := Aside0.mk hC
  clear h4 hC
  obtain ⟨bA5, bc5, h, bhc5, hC⟩ := Kd.R_reads h5
  replace h : v5 = .slice bA5 0 bc5 := h
  subst h
  have bH5 := Aside0.mk hC
  clear h5 hC
  have HBb2 := Aside0.mk (below_alloc (below_then HBa2.out HBa2.out.size HBb.out) (.cells #[.string ⟨#[]⟩, .slice bA1 0 bc1, .slice bA2 0 bc2, .slice bA3 0 bc3, .slice bA4 0 bc4, .slice bA5 0 bc5, .int .i64 0] 24))
  go_wp2_with (fail)
  refine (IRead.calls aw3 _ _ _ _ _ _ _ _ _ (HT.out.below HBb2.out) aw3_read).mono ?_
  rintro e w3 ⟨v1, v2, v3, v4, v5, rfl, h1, h2, h3, h4, h5, hb⟩
  have HBc := Aside0.mk (below_then HBb2.out HBb2.out.size hb)
  have hb0 := hb
  clear hb
  obtain ⟨cA1, cc1, h, chc1, hC⟩ := Kd.R_reads h1
  replace h : v1 = .slice cA1 0 cc1 := h
  subst h
  have cH1 := Aside0.mk hC
  clear h1 hC
  obtain ⟨cA2, cc2, h, chc2, hC⟩ := Kd.R_reads h2
  replace h : v2 = .slice cA2 0 cc2 := h
  subst h
  have cH2 := Aside0.mk hC
  clear h2 hC
  obtain ⟨cA3, cc3, h, chc3, hC⟩ := Kd.R_reads h3
  replace h : v3 = .slice cA3 1 cc3 := h
  subst h
  have cH3 := Aside0.mk hC
  clear h3 hC
  obtain ⟨cA4, cc4, h, chc4, hC⟩ := Kd.R_reads h4
  replace h : v4 = .slice cA4 0 cc4 := h
  subst h
  have cH4 := Aside0.mk hC
  clear h4 hC
  obtain ⟨cA5, cc5, h, chc5, hC⟩ := Kd.R_reads h5
  replace h : v5 = .slice cA5 0 cc5 := h
  subst h
  have cH5 := Aside0.mk hC
  clear h5 hC
  have HPc := Aside0.mk (heap_alloc_new w3 (.cells #[.string ⟨#[108, 97, 115, 116]⟩, .slice cA1 0 cc1, .slice cA2 0 cc2, .slice cA3 1 cc3, .slice cA4 0 cc4, .slice cA5 0 cc5, .int .i64 0] 24))
  have HBd := Aside0.mk (below_alloc HBc.out (.cells #[.string ⟨#[108, 97, 115, 116]⟩, .slice cA1 0 cc1, .slice cA2 0 cc2, .slice cA3 1 cc3, .slice cA4 0 cc4, .slice cA5 0 cc5, .int .i64 0] 24))
  have HW13 := Aside0.mk (below_alloc (below_then (below_alloc HBb.out (.cells #[.string ⟨#[]⟩, .slice bA1 0 bc1, .slice bA2 0 bc2, .slice bA3 0 bc3, .slice bA4 0 bc4, .slice bA5 0 bc5, .int .i64 0] 24)) (Nat.le_trans HBb.out.size (by simp)) hb0) (.cells #[.string ⟨#[108, 97, 115, 116]⟩, .slice cA1 0 cc1, .slice cA2 0 cc2, .slice cA3 1 cc3, .slice cA4 0 cc4, .slice cA5 0 cc5, .int .i64 0] 24))
  have HPa3 := Aside0.mk ((HW13.out.block _ (blk_lt HPa.out)).trans HPa.out)
  have ca0 := (blk_cell HPa3.out 0).trans rfl
  have ca1 := (blk_cell HPa3.out 1).trans rfl
  have ca2 := (blk_cell HPa3.out 2).trans rfl
  have ca3 := (blk_cell HPa3.out 3).trans rfl
  have ca4 := (blk_cell HPa3.out 4).trans rfl
  have ca5 := (blk_cell HPa3.out 5).trans rfl
  have ca6 := (blk_cell HPa3.out 6).trans rfl
  have HQ0 := Aside0.mk (show ∀ W, Below (w3.alloc (.cells #[.string ⟨#[108, 97, 115, 116]⟩, .slice cA1 0 cc1, .slice cA2 0 cc2, .slice cA3 1 cc3, .slice cA4 0 cc4, .slice cA5 0 cc5, .int .i64 0] 24)).heap.size (w3.alloc (.cells #[.string ⟨#[108, 97, 115, 116]⟩, .slice cA1 0 cc1, .slice cA2 0 cc2, .slice cA3 1 cc3, .slice cA4 0 cc4, .slice cA5 0 cc5, .int .i64 0] 24)) W → Below w.heap.size w W from fun W hW => below_then HBd.out HBd.out.size hW)
  have HQ1 := Aside0.mk (show ∀ W, Below (w3.alloc (.cells #[.string ⟨#[108, 97, 115, 116]⟩, .slice cA1 0 cc1, .slice cA2 0 cc2, .slice cA3 1 cc3, .slice cA4 0 cc4, .slice cA5 0 cc5, .int .i64 0] 24)).heap.size (w3.alloc (.cells #[.string ⟨#[108, 97, 115, 116]⟩, .slice cA1 0 cc1, .slice cA2 0 cc2, .slice cA3 1 cc3, .slice cA4 0 cc4, .slice cA5 0 cc5, .int .i64 0] 24)) W → Below w1.heap.size w1 W from fun W hW => below_then (below_then (below_alloc (Below.refl _ w1) (.cells #[.string ⟨#[110, 105, 103, 104, 116]⟩, .slice aA1 0 ac1, .slice aA2 0 ac2, .slice aA3 0 ac3, .slice aA4 0 ac4, .slice aA5 2 ac5, .int .i64 0] 24)) (by simp) HW13.out) (Nat.le_trans (by simp) (Nat.le_trans HW13.out.size (Nat.le_refl _))) hW)
  have HQ3 := Aside0.mk (show ∀ W, Below (w3.alloc (.cells #[.string ⟨#[108, 97, 115, 116]⟩, .slice cA1 0 cc1, .slice cA2 0 cc2, .slice cA3 1 cc3, .slice cA4 0 cc4, .slice cA5 0 cc5, .int .i64 0] 24)).heap.size (w3.alloc (.cells #[.string ⟨#[108, 97, 115, 116]⟩, .slice cA1 0 cc1, .slice cA2 0 cc2, .slice cA3 1 cc3, .slice cA4 0 cc4, .slice cA5 0 cc5, .int .i64 0] 24)) W → Below w3.heap.size w3 W from fun W hW => below_then (below_alloc (Below.refl _ w3) (.cells #[.string ⟨#[108, 97, 115, 116]⟩, .slice cA1 0 cc1, .slice cA2 0 cc2, .slice cA3 1 cc3, .slice cA4 0 cc4, .slice cA5 0 cc5, .int .i64 0] 24)) (by simp) hW)
  have HHa := Aside0.mk (show ∀ W, Below (w3.alloc (.cells #[.string ⟨#[108, 97, 115, 116]⟩, .slice cA1 0 cc1, .slice cA2 0 cc2, .slice cA3 1 cc3, .slice cA4 0 cc4, .slice cA5 0 cc5, .int .i64 0] 24)).heap.size (w3.alloc (.cells #[.string ⟨#[108, 97, 115, 116]⟩, .slice cA1 0 cc1, .slice cA2 0 cc2, .slice cA3 1 cc3, .slice cA4 0 cc4, .slice cA5 0 cc5, .int .i64 0] 24)) W → _ from fun W hW => IHas.calls ⟨#[110, 105, 103, 104, 116]⟩ aA1 ac1 [] aA2 ac2 [] aA3 ac3 [] aA4 ac4 [] aA5 ac5 [⟨1320, 1440⟩, ⟨0, 360⟩] 0 82800 _ W (Kd.C_below aH1.out (HQ1.out W hW)) ahc1 (Kd.C_below aH2.out (HQ1.out W hW)) ahc2 (Kd.C_below aH3.out (HQ1.out W hW)) ahc3 (Kd.C_below aH4.out (HQ1.out W hW)) ahc4 (Kd.C_below aH5.out (HQ1.out W hW)) ahc5 (HT.out.below (HQ0.out W hW)) aw1_has)
  have HHb := Aside0.mk (show ∀ W, Below (w3.alloc (.cells #[.string ⟨#[108, 97, 115, 116]⟩, .slice cA1 0 cc1, .slice cA2 0 cc2, .slice cA3 1 cc3, .slice cA4 0 cc4, .slice cA5 0 cc5, .int .i64 0] 24)).heap.size (w3.alloc (.cells #[.string ⟨#[108, 97, 115, 116]⟩, .slice cA1 0 cc1, .slice cA2 0 cc2, .slice cA3 1 cc3, .slice cA4 0 cc4, .slice cA5 0 cc5, .int .i64 0] 24)) W → _ from fun W hW => IHas.calls ⟨#[110, 105, 103, 104, 116]⟩ aA1 ac1 [] aA2 ac2 [] aA3 ac3 [] aA4 ac4 [] aA5 ac5 [⟨1320, 1440⟩, ⟨0, 360⟩] 0 25200 _ W (Kd.C_below aH1.out (HQ1.out W hW)) ahc1 (Kd.C_below aH2.out (HQ1.out W hW)) ahc2 (Kd.C_below aH3.out (HQ1.out W hW)) ahc3 (Kd.C_below aH4.out (HQ1.out W hW)) ahc4 (Kd.C_below aH5.out (HQ1.out W hW)) ahc5 (HT.out.below (HQ0.out W hW)) aw1_not)
  have HHc := Aside0.mk (show ∀ W, Below (w3.alloc (.cells #[.string ⟨#[108, 97, 115, 116]⟩, .slice cA1 0 cc1, .slice cA2 0 cc2, .slice cA3 1 cc3, .slice cA4 0 cc4, .slice cA5 0 cc5, .int .i64 0] 24)).heap.size (w3.alloc (.cells #[.string ⟨#[108, 97, 115, 116]⟩, .slice cA1 0 cc1, .slice cA2 0 cc2, .slice cA3 1 cc3, .slice cA4 0 cc4, .slice cA5 0 cc5, .int .i64 0] 24)) W → _ from fun W hW => IHas.calls ⟨#[108, 97, 115, 116]⟩ cA1 cc1 [] cA2 cc2 [] cA3 cc3 [⟨-3, -1⟩] cA4 cc4 [] cA5 cc5 [] 0 2419200 _ W (Kd.C_below cH1.out (HQ3.out W hW)) chc1 (Kd.C_below cH2.out (HQ3.out W hW)) chc2 (Kd.C_below cH3.out (HQ3.out W hW)) chc3 (Kd.C_below cH4.out (HQ3.out W hW)) chc4 (Kd.C_below cH5.out (HQ3.out W hW)) chc5 (HT.out.below (HQ0.out W hW)) aw3_has)
  have HHd := Aside0.mk (show ∀ W, Below (w3.alloc (.cells #[.string ⟨#[108, 97, 115, 116]⟩, .slice cA1 0 cc1, .slice cA2 0 cc2, .slice cA3 1 cc3, .slice cA4 0 cc4, .slice cA5 0 cc5, .int .i64 0] 24)).heap.size (w3.alloc (.cells #[.string ⟨#[108, 97, 115, 116]⟩, .slice cA1 0 cc1, .slice cA2 0 cc2, .slice cA3 1 cc3, .slice cA4 0 cc4, .slice cA5 0 cc5, .int .i64 0] 24)) W → _ from fun W hW => IHas.calls ⟨#[108, 97, 115, 116]⟩ cA1 cc1 [] cA2 cc2 [] cA3 cc3 [⟨-3, -1⟩] cA4 cc4 [] cA5 cc5 [] 0 2332800 _ W (Kd.C_below cH1.out (HQ3.out W hW)) chc1 (Kd.C_below cH2.out (HQ3.out W hW)) chc2 (Kd.C_below cH3.out (HQ3.out W hW)) chc3 (Kd.C_below cH4.out (HQ3.out W hW)) chc4 (Kd.C_below cH5.out (HQ3.out W hW)) chc5 (HT.out.below (HQ0.out W hW)) aw3_not)
  go_wp2_with (fail)
  refine (HHa.out _ (Below.refl (w3.alloc (.cells #[.string ⟨#[108, 97, 115, 116]⟩, .slice cA1 0 cc1, .slice cA2 0 cc2, .slice cA3 1 cc3, .slice cA4 0 cc4, .slice cA5 0 cc5, .int .i64 0] 24)).heap.size (w3.alloc (.cells #[.string ⟨#[108, 97, 115, 116]⟩, .slice cA1 0 cc1, .slice cA2 0 cc2, .slice cA3 1 cc3, .slice cA4 0 cc4, .slice cA5 0 cc5, .int .i64 0] 24)))).mono ?_
  rintro e w5 ⟨rfl, hb⟩
  have HBw5 := Aside0.mk (below_then (Below.refl (w3.alloc (.cells #[.string ⟨#[108, 97, 115, 116]⟩, .slice cA1 0 cc1, .slice cA2 0 cc2, .slice cA3 1 cc3, .slice cA4 0 cc4, .slice cA5 0 cc5, .int .i64 0] 24)).heap.size (w3.alloc (.cells #[.string ⟨#[108, 97, 115, 116]⟩, .slice cA1 0 cc1, .slice cA2 0 cc2, .slice cA3 1 cc3, .slice cA4 0 cc4, .slice cA5 0 cc5, .int .i64 0] 24))) ((Below.refl (w3.alloc (.cells #[.string ⟨#[108, 97, 115, 116]⟩, .slice cA1 0 cc1, .slice cA2 0 cc2, .slice cA3 1 cc3, .slice cA4 0 cc4, .slice cA5 0 cc5, .int .i64 0] 24)).heap.size (w3.alloc (.cells #[.string ⟨#[108, 97, 115, 116]⟩, .slice cA1 0 cc1, .slice cA2 0 cc2, .slice cA3 1 cc3, .slice cA4 0 cc4, .slice cA5 0 cc5, .int .i64 0] 24)))).size hb)
  clear hb
  have hpaw5 := (HBw5.out.block _ (Nat.lt_of_lt_of_le (blk_lt HPa3.out) (Nat.le_refl _))).trans HPa3.out
  have hpcw5 := (HBw5.out.block _ (blk_lt HPc.out)).trans HPc.out
  have kaw50 := (blk_cell hpaw5 0).trans rfl
  have kaw51 := (blk_cell hpaw5 1).trans rfl
  have kaw52 := (blk_cell hpaw5 2).trans rfl
  have kaw53 := (blk_cell hpaw5 3).trans rfl
  have kaw54 := (blk_cell hpaw5 4).trans rfl
  have kaw55 := (blk_cell hpaw5 5).trans rfl
  have kaw56 := (blk_cell hpaw5 6).trans rfl
  have kcw50 := (blk_cell hpcw5 0).trans rfl
  have kcw51 := (blk_cell hpcw5 1).trans rfl
  have kcw52 := (blk_cell hpcw5 2).trans rfl
  have kcw53 := (blk_cell hpcw5 3).trans rfl
  have kcw54 := (blk_cell hpcw5 4).trans rfl
  have kcw55 := (blk_cell hpcw5 5).trans rfl
  have kcw56 := (blk_cell hpcw5 6).trans rfl
  clear hpaw5 hpcw5
  go_wp2_with (fail)
  refine (HHb.out _ HBw5.out).mono ?_
  rintro e w6 ⟨rfl, hb⟩
  have HBw6 := Aside0.mk (below_then HBw5.out (HBw5.out).size hb)
  clear hb
  have hpaw6 := (HBw6.out.block _ (Nat.lt_of_lt_of_le (blk_lt HPa3.out) (Nat.le_refl _))).trans HPa3.out
  have hpcw6 := (HBw6.out.block _ (blk_lt HPc.out)).trans HPc.out
  have kaw60 := (blk_cell hpaw6 0).trans rfl
  have kaw61 := (blk_cell hpaw6 1).trans rfl
  have kaw62 := (blk_cell hpaw6 2).trans rfl
  have kaw63 := (blk_cell hpaw6 3).trans rfl
  have kaw64 := (blk_cell hpaw6 4).trans rfl
  have kaw65 := (blk_cell hpaw6 5).trans rfl
  have kaw66 := (blk_cell hpaw6 6).trans rfl
  have kcw60 := (blk_cell hpcw6 0).trans rfl
  have kcw61 := (blk_cell hpcw6 1).trans rfl
  have kcw62 := (blk_cell hpcw6 2).trans rfl
  have kcw63 := (blk_cell hpcw6 3).trans rfl
  have kcw64 := (blk_cell hpcw6 4).trans rfl
  have kcw65 := (blk_cell hpcw6 5).trans rfl
  have kcw66 := (blk_cell hpcw6 6).trans rfl
  clear hpaw6 hpcw6
  go_wp2_with (fail)
  refine (HHc.out _ HBw6.out).mono ?_
  rintro e w7 ⟨rfl, hb⟩
  have HBw7 := Aside0.mk (below_then HBw6.out (HBw6.out).size hb)
  clear hb
  have hpaw7 := (HBw7.out.block _ (Nat.lt_of_lt_of_le (blk_lt HPa3.out) (Nat.le_refl _))).trans HPa3.out
  have hpcw7 := (HBw7.out.block _ (blk_lt HPc.out)).trans HPc.out
  have kaw70 := (blk_cell hpaw7 0).trans rfl
  have kaw71 := (blk_cell hpaw7 1).trans rfl
  have kaw72 := (blk_cell hpaw7 2).trans rfl
  have kaw73 := (blk_cell hpaw7 3).trans rfl
  have kaw74 := (blk_cell hpaw7 4).trans rfl
  have kaw75 := (blk_cell hpaw7 5).trans rfl
  have kaw76 := (blk_cell hpaw7 6).trans rfl
  have kcw70 := (blk_cell hpcw7 0).trans rfl
  have kcw71 := (blk_cell hpcw7 1).trans rfl
  have kcw72 := (blk_cell hpcw7 2).trans rfl
  have kcw73 := (blk_cell hpcw7 3).trans rfl
  have kcw74 := (blk_cell hpcw7 4).trans rfl
  have kcw75 := (blk_cell hpcw7 5).trans rfl
  have kcw76 := (blk_cell hpcw7 6).trans rfl
  clear hpaw7 hpcw7
  go_wp2_with (fail)
  refine (HHd.out _ HBw7.out).mono ?_
  rintro e w8 ⟨rfl, hb⟩
  have HBw8 := Aside0.mk (below_then HBw7.out (HBw7.out).size hb)
  clear hb
  have hpaw8 := (HBw8.out.block _ (Nat.lt_of_lt_of_le (blk_lt HPa3.out) (Nat.le_refl _))).trans HPa3.out
  have hpcw8 := (HBw8.out.block _ (blk_lt HPc.out)).trans HPc.out
  have kaw80 := (blk_cell hpaw8 0).trans rfl
  have kaw81 := (blk_cell hpaw8 1).trans rfl
  have kaw82 := (blk_cell hpaw8 2).trans rfl
  have kaw83 := (blk_cell hpaw8 3).trans rfl
  have kaw84 := (blk_cell hpaw8 4).trans rfl
  have kaw85 := (blk_cell hpaw8 5).trans rfl
  have kaw86 := (blk_cell hpaw8 6).trans rfl
  have kcw80 := (blk_cell hpcw8 0).trans rfl
  have kcw81 := (blk_cell hpcw8 1).trans rfl
  have kcw82 := (blk_cell hpcw8 2).trans rfl
  have kcw83 := (blk_cell hpcw8 3).trans rfl
  have kcw84 := (blk_cell hpcw8 4).trans rfl
  have kcw85 := (blk_cell hpcw8 5).trans rfl
  have kcw86 := (blk_cell hpcw8 6).trans rfl
  clear hpaw8 hpcw8
  go_wp2_with (fail)
  go_ret
  exact ⟨rfl, HQ0.out _ HBw8.out⟩
end Go.Proofs.YtgipdacenppmdaaDoor.G
