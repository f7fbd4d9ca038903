/- Keep and Fork of the timers, and timers that are not there. -/
import Derived.Test.YtbocdfpgjkjilaaTC
import Derived.Test.YtbocdfpgjkjilaaCells
set_option linter.unusedVariables false
set_option linter.unusedSimpArgs false
namespace Go.Proofs.Ytbocdfpgjkjilaa.T
open Go.RowKit Go.Maps Go.Sort Go.Shelf Go.Proofs.YtbocdfpgjkjilaaW.PrintWords Go.Proofs.Ytbocdfpgjkjilaa.PTimerPlays Go.Proofs.Ytbocdfpgjkjilaa.R

/-- A slice of texts that is read: its cells, one by one. -/
theorem strs_cells {w : World} {A : Option Addr} {l : List ByteArray} (h : Kd.C Kd.string w A l.length l) (hp : 0 < l.length) :
    ∃ b off, A = some ⟨b, off, none⟩ ∧ ∀ j, j < l.length → w.cell? ⟨b, off + j, none⟩ = some (.string (l.getD j ByteArray.empty)) := by
  have h0 := Kd.C_get h ByteArray.empty 0 (by omega) (by omega)
  obtain ⟨ad, c, rfl, _, hK, hc0⟩ := h0
  obtain rfl : c = [.string (l.getD 0 ByteArray.empty)] := hK
  have hcell := hc0 0 _ rfl
  obtain ⟨b, off, sp⟩ := ad
  cases sp with
  | some s =>
    exfalso
    simp only [World.cell?, Addr.add] at hcell
    split at hcell <;> simp_all
  | none =>
    refine ⟨b, off, rfl, fun j hj => ?_⟩
    obtain ⟨ad2, c2, e2, _, hK2, hc2⟩ := Kd.C_get h ByteArray.empty (j : Int) (by omega) (by omega)
    obtain rfl : (⟨b, off, none⟩ : Addr) = ad2 := Option.some.inj e2
    obtain rfl : c2 = [.string (l.getD (j : Int).toNat ByteArray.empty)] := hK2
    have h3 := hc2 0 _ rfl
    have hsz : Kd.string.sz = 1 := rfl
    rw [hsz, Int.toNat_natCast, Nat.mul_one, Nat.add_zero] at h3
    rw [← add_at]
    exact h3

def inB (keys : List ByteArray) (k : ByteArray) : Bool := keys.any fun x => decide (x = k)
theorem inB_contains (keys : List ByteArray) (k : ByteArray) : Lib.containsS keys k = inB keys k := by
  rw [Bool.eq_iff_iff, Lib.containsS_iff]
  simp [inB]
theorem contains_any (A : Option Addr) (c : Nat) (keys : List ByteArray) (k : ByteArray) (w : World) (h : Kd.C Kd.string w A keys.length keys) :
    Calls Try.prog 37 #[.slice A keys.length c, .string k] w fun e w' => e = .returned (.bool (inB keys k)) ∧ w' = w := by
  have hm := Kd.C_max h
  cases keys with
  | nil => exact Try.slices_Contains_string_empty A c k w
  | cons x r =>
    obtain ⟨b, off, rfl, hc⟩ := strs_cells h (by simp)
    refine (Try.slices_Contains_string b off (x :: r).length c (x :: r) k w (Nat.le_refl _) hm hc).mono ?_
    rintro e w' ⟨rfl, rfl⟩
    rw [List.take_length, inB_contains]
    exact ⟨rfl, rfl⟩

theorem keep1_any (A : Option Addr) (c : Nat) (keys : List ByteArray) (k : ByteArray) (v : Int) (t : Nat) (w : World) (h : Kd.C Kd.string w A keys.length keys) (ht : w.cell? ⟨t, 0, none⟩ = some (.slice A keys.length c)) :
    Calls Try.prog 36 (#[.string k, .int .i64 v] ++ #[.pointer (some ⟨t, 0, none⟩)]) w fun e w' => e = .returned (.bool (!inB keys k)) ∧ w' = w := by
  have hcon := contains_any A c keys k w h
  generalize inB keys k = r at hcon ⊢
  clear h
  go_enter Try.func36, Try.ntmps36
  go_wp2_with (fail)
  refine hcon.mono ?_
  rintro e w' ⟨rfl, rfl⟩
  go_wp2_with (fail)
  go_ret
  exact ⟨rfl, rfl⟩

def keepL (L : List S52) (keys : List ByteArray) : List S52 := L.filter fun x => inB keys x.f0
def pdK (keys : List ByteArray) : Lit → DataW Unit → Bool
  | .string s, _ => !(keys.any fun x => decide (x.data.toList = s))
  | _, _ => false
theorem pdK_key (keys : List ByteArray) (k : ByteArray) (d : DataW Unit) : pdK keys (.string k.data.toList) d = !inB keys k := by
  show (!(keys.any fun x => decide (x.data.toList = k.data.toList))) = !(keys.any fun x => decide (x = k))
  congr 2
  funext x
  by_cases e : x = k
  · subst e; simp
  · rw [decide_eq_false e, decide_eq_false (key_ne e)]
theorem RelD.keep {D : DataW Unit} {L : List S52} (h : RelD D L) (keys : List ByteArray) : RelD (Lib.deleteFuncD (pdK keys) D) (keepL L keys) := by
  obtain ⟨es, rfl, hp⟩ := h
  refine ⟨_, rfl, (hp.filter _).trans ?_⟩
  rw [List.filter_map]
  have : (fun p : Lit × DataW Unit => !pdK keys p.1 p.2) ∘ ent = fun x => inB keys x.f0 := by
    funext x
    simp only [Function.comp, ent, pdK_key, Bool.not_not]
  rw [this]
  exact .refl _

set_option maxHeartbeats 1000000 in
theorem keep_any (g b : Nat) (L : List S52) (A : Option Addr) (c : Nat) (keys : List ByteArray) (w : World) (h : Tm w g b L) (hk : Kd.C Kd.string w A keys.length keys) (hL : L.length ≤ 1000000000) :
    Calls Try.prog 20 #[.pointer (some ⟨g, 0, none⟩), .slice A keys.length c] w fun e w' => e = .returned (.int .i64 (L.length - (keepL L keys).length)) ∧ Tm w' g b (keepL L keys) ∧ w.grownBy w' (some b) := by
  have hgt := h.gt
  have hgb := h.ne
  have hln := len_any g b L (w.alloc (.cells #[.slice A keys.length c] 42)) (h.below (below_alloc (Below.refl _ _) _))
  have eg : ∀ args w, (callFunc 36 args).run Try.prog w = .ok (.enter 36 args) w := enters_of Try.func36 (by kernel_rfl) rfl
  obtain ⟨h1, h2, h3, D, h4, h5⟩ := h
  have c0 : w.cell? ⟨g, 0, none⟩ = some (.map (some b)) := (blk_cell h1 0).trans rfl
  have hcon : Calls Try.prog 35 #[.map (some b), .func (.func 36) #[] #[.pointer (some ⟨w.heap.size, 0, none⟩)]] (w.alloc (.cells #[.slice A keys.length c] 42)) (fun e w' => e = .returned (.tuple #[]) ∧ w'.ownsMap Try.prog 9 (plainElem Try.prog 3) b L.length (Lib.deleteFuncD (pdK keys) D) ∧ (w.alloc (.cells #[.slice A keys.length c] 42)).grownBy w' (some b)) := by
    refine AnyDf.maps_DeleteFunc Try.delT law9 (plainElem Try.prog 3) (pdK keys) 36 #[.pointer (some ⟨w.heap.size, 0, none⟩)] b L.length D _ eg (h4.alloc _) (fun W key val kl yd yp hW hkey hv => ?_)
    obtain ⟨x, rfl, rfl⟩ := keyOf_str _ _ hkey
    obtain ⟨v, rfl, hyd, _⟩ := plainElem_int_inv Try.underlying3 hv
    obtain rfl : yd = .lit (.int .i64 v) := by simpa using congrArg Prod.fst hyd
    have hbx : W.cell? ⟨w.heap.size, 0, none⟩ = some (.slice A keys.length c) := by
      rw [World.cell?_of_block (hW.block w.heap.size (by simp) (by simp; omega))]; simp
    have hkW : Kd.C Kd.string W A keys.length keys := (Cells.KStays.scalar _ _).C (Cells.Stays.grown hW (fun j hj => by
      cases hj
      obtain ⟨es, clock, hb, _⟩ := h4
      exact ⟨es, clock, blk_alloc hb _⟩)) (Kd.C_alloc hk _)
    refine (keep1_any A c keys x.1 v w.heap.size W hkW hbx).mono ?_
    rintro e w' ⟨rfl, rfl⟩
    rw [pdK_key]
    exact ⟨rfl, World.grownBy.refl _ _⟩
  have H5 := Aside0.mk h5
  have H1 := Aside0.mk h1
  have H2 := Aside0.mk h2
  have H3 := Aside0.mk h3
  have HG := Aside0.mk hgb
  have HL2 := Aside0.mk (show (keepL L keys).length ≤ L.length from List.length_filter_le _ _)
  have hkl : 0 ≤ (L.length : Int) := by omega
  have hk2 : (L.length : Int) ≤ 1000000000 := by omega
  clear h1 h2 h3 h5 h4 hk hgb
  go_enter Try.func20, Try.ntmps20
  go_wp2_with (fail)
  refine hln.mono ?_
  rintro e w' ⟨rfl, rfl⟩
  go_wp2_with (fail)
  refine hcon.mono ?_
  rintro e w' ⟨rfl, hown, hg⟩
  have hp := H5.out.keep keys
  have htm : Tm w' g b (keepL L keys) := by
    refine ⟨blk_grown (blk_alloc H1.out _) hg (by simpa using HG.out), H2.out.filter _, fun x hx => H3.out x (List.mem_filter.1 hx).1, _, ?_, hp⟩
    have := ownsMap_size hown
    rwa [hp.size] at this
  have HTM := Aside0.mk htm
  have HG2 := Aside0.mk hg
  have hln2 := len_any g b _ w' htm
  have hl1 : 0 ≤ ((keepL L keys).length : Int) := by omega
  have hl2 : ((keepL L keys).length : Int) ≤ 1000000000 := by have := HL2.out; omega
  obtain ⟨m, hm⟩ : ∃ m, m = (keepL L keys).length := ⟨_, rfl⟩
  rw [← hm] at hln2 hl1 hl2
  have HM := Aside0.mk hm
  clear hm
  clear hown hg hp htm hln hcon
  go_wp2_with (fail)
  refine hln2.mono ?_
  rintro e w' ⟨rfl, rfl⟩
  go_wp2_with (fail)
  go_ret
  exact ⟨by rw [← HM.out]; rfl, HTM.out, World.grownBy.andThen (World.grownBy_alloc w _ _) HG2.out (fun j hj => .inr (by simpa using hj))⟩

/-- Fork. -/
theorem fork_any (g b : Nat) (L : List S52) (w : World) (h : Tm w g b L) :
    Calls Try.prog 19 #[.pointer (some ⟨g, 0, none⟩)] w fun e w' => ∃ g' b', e = .returned (.pointer (some ⟨g', 0, none⟩)) ∧ Tm w' g' b' L ∧ Tm w' g b L ∧ Below w.heap.size w w' ∧ w.heap.size ≤ g' ∧ w.heap.size ≤ b' := by
  have HT := Aside0.mk h
  obtain ⟨h1, h2, h3, D, h4, h5⟩ := h
  have c0 : w.cell? ⟨g, 0, none⟩ = some (.map (some b)) := (blk_cell h1 0).trans rfl
  have hcon : Calls Try.prog 34 #[.map (some b)] w (fun e w' => e = .returned (.map (some w.heap.size)) ∧ w'.ownsMap Try.prog 9 (plainElem Try.prog 3) w.heap.size L.length D ∧ w'.ownsMap Try.prog 9 (plainElem Try.prog 3) b L.length D ∧ Below w.heap.size w w') := AnyW.maps_Clone_owns Try.cloneT 9 (plainElem Try.prog 3) b L.length D w h4
  have H2 := Aside0.mk h2
  have H3 := Aside0.mk h3
  have H5 := Aside0.mk h5
  clear h1 h2 h3 h4 h5
  go_enter Try.func19, Try.ntmps19
  go_wp2_with (fail)
  refine hcon.mono ?_
  rintro e w1 ⟨rfl, ho1, ho2, hb⟩
  have HO := Aside0.mk ho1
  have HB := Aside0.mk hb
  clear ho1 ho2 hb hcon
  go_wp2_with (fail)
  go_ret
  refine ⟨w1.heap.size, w.heap.size, rfl, ⟨blk_new w1 _, H2.out, H3.out, D, HO.out.alloc _, H5.out⟩, ?_, HB.out.alloc HB.out.size _, HB.out.size, Nat.le_refl _⟩
  exact HT.out.below (HB.out.alloc HB.out.size _)

theorem due_nil (now : Int) (w : World) : Calls Try.prog 18 #[.pointer none, .int .i64 now] w fun e w' => e = .returned (.slice none 0 0) ∧ Below w.heap.size w w' := by
  go_enter Try.func18, Try.ntmps18
  go_wp2
  go_ret
  exact ⟨rfl, below_alloc (Below.refl _ _) _⟩
theorem keep_nil (w : World) : Calls Try.prog 20 #[.pointer none, .slice none 0 0] w fun e w' => e = .returned (.int .i64 0) ∧ Below w.heap.size w w' := by
  go_enter Try.func20, Try.ntmps20
  go_wp2_with (fail)
  refine (len_nil _).mono ?_
  rintro e w' ⟨rfl, rfl⟩
  go_wp2_with (fail)
  refine (len_nil _).mono ?_
  rintro e w' ⟨rfl, rfl⟩
  go_wp2_with (fail)
  go_ret
  exact ⟨rfl, below_alloc (Below.refl _ _) _⟩
theorem fork_nil (w : World) : Calls Try.prog 19 #[.pointer none] w fun e w' => e = .returned (.pointer none) ∧ w' = w := by
  go_enter Try.func19, Try.ntmps19
  go_wp2
  go_ret
  exact ⟨rfl, rfl⟩
end Go.Proofs.Ytbocdfpgjkjilaa.T
