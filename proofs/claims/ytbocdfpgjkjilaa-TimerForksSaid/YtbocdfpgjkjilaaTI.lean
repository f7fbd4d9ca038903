/- One call on both, the program's timers and the document's: they answer alike and hold the same. -/
import Derived.Test.YtbocdfpgjkjilaaTF
import Derived.Test.YtbocdfpgjkjilaaCells
set_option linter.unusedVariables false
set_option linter.unusedSimpArgs false
namespace Go.Proofs.Ytbocdfpgjkjilaa.T
open Go.RowKit Go.Maps Go.Sort Go.Shelf Go.Proofs.YtbocdfpgjkjilaaW.PrintWords Go.Proofs.Ytbocdfpgjkjilaa.PTimerPlays Go.Proofs.Ytbocdfpgjkjilaa.R Go.Proofs.Ytbocdfpgjkjilaa.Cells

/-- The document's row lies in a block of its own type. -/
def Ty (w : World) (A : Option Addr) : Prop := ∀ ad, A = some ad → ∃ cells, w.heap[ad.block]? = some (.cells cells 52 (0, 0))
theorem Ty.none (w : World) : Ty w none := fun _ h => by cases h
/-- No time is below nought. -/
def Nn (L : List S52) : Prop := ∀ y ∈ L, 0 ≤ y.f1
/-- The program's timers and the document's hold the same. -/
def Pl (w : World) (g b : Nat) (A : Option Addr) (c : Nat) (L : List S52) : Prop := Tm w g b L ∧ Kd.C k52 w A L.length L ∧ L.length ≤ c ∧ L.Pairwise ltX ∧ Ty w A ∧ Nn L
theorem stays52 : KStays k52 := KStays.iso (KStays.pair (KStays.scalar _ _) (KStays.scalar _ _)) _
theorem Tm.map {w : World} {g b : Nat} {L : List S52} (h : Tm w g b L) : ∃ es clock, w.heap[b]? = some (.map es clock) := by
  obtain ⟨_, _, _, D, ⟨es, clock, hb, _⟩, _⟩ := h
  exact ⟨es, clock, hb⟩
theorem Tm.stays {w w' : World} {g b : Nat} {L : List S52} (h : Tm w g b L) (hg : w.grownBy w' (some b)) : Stays w w' := Stays.grown hg (fun j hj => by cases hj; exact h.map)

theorem Tm.ty {w w' : World} {g b : Nat} {L : List S52} {A : Option Addr} (h : Tm w g b L) (hg : w.grownBy w' (some b)) (ht : Ty w A) : Ty w' A := fun ad e => by
  obtain ⟨cells, hc⟩ := ht ad e
  obtain ⟨es, clock, hm⟩ := h.map
  exact ⟨cells, (hg.block _ (blk_lt hc) (fun e => by injection e with e; rw [e, hm] at hc; cases hc)).trans hc⟩
theorem ty_R {w : World} {base : Nat} {A : Option Addr} {n c : Nat} {L : List S52} (h : Kd.R k52 52 w base (fun _ => True) (.slice A n c) L) : Ty w A := fun ad e => by
  obtain ⟨inner, ho⟩ := Kd.R_own h
  subst e
  exact own_typed ho ad.block rfl
theorem ins_pl {L : List S52} (x : S52) (h : L.Pairwise ltX) : (insL (delL L x.f0) x).Pairwise ltX ∧ (putL L x).Perm (insL (delL L x.f0) x) ∧ (insL (delL L x.f0) x).length ≤ L.length + 1 := by
  have hp := insL_perm (delL L x.f0) x
  refine ⟨insL_sorted (h.filter _) ?_, hp.symm, ?_⟩
  · intro y hy
    have := (List.mem_filter.1 hy).2
    simpa using this
  · have h1 := hp.length_eq
    have h2 := delL_le L x.f0
    simp at h1
    omega

/-- What a call on both leaves. -/
def DoR (w : World) (g b : Nat) (L : List S52) (e : Ending) (w' : World) : Prop :=
  ∃ A' c' L', e = .returned (.tuple #[.agg #[.slice A' L'.length c'], .bool true]) ∧ Pl w' g b A' c' L' ∧ w.grownBy w' (some b) ∧ L'.length ≤ L.length + 1

theorem kp {w w3 w4 w' : World} {b : Nat} (h1 : Below w.heap.size w w3) (h2 : w3.grownBy w4 (some b)) (h3 : Below w.heap.size w4 w') : w.grownBy w' (some b) :=
  ⟨h3.os.trans (h2.os.trans h1.os), h3.tape.trans (h2.tape.trans h1.tape), h3.output.trans (h2.output.trans h1.output), Nat.le_trans h1.size (Nat.le_trans h2.size h3.size), fun k hk hne =>
    (h3.block k hk).trans ((h2.block k (Nat.lt_of_lt_of_le hk h1.size) hne).trans (h1.block k hk))⟩
/-- A row's own place in memory, or a new one. -/
def Row2 (w4 w5 : World) (A : Option Addr) (c : Nat) (L : List S52) (A' : Option Addr) (c' : Nat) (L' : List S52) : Prop :=
  (A' = A ∧ c' = c ∧ L' = L) ∨ (Kd.R k52 52 w5 w4.heap.size (fun _ => True) (.slice A' L'.length c') L')
theorem row2_R {w4 w5 : World} {A : Option Addr} {c : Nat} {L L' : List S52} {v : Value} (h : Kd.R k52 52 w5 w4.heap.size (fun _ => True) v L') : ∃ A' c', v = .slice A' L'.length c' ∧ Row2 w4 w5 A c L A' c' L' := by
  obtain ⟨A', c', rfl⟩ := Kd.R_slice h
  exact ⟨A', c', rfl, .inr h⟩
theorem row2_L {w4 w5 : World} {A : Option Addr} {c : Nat} {L L' : List S52} {yes : Bool} {v : Value} (h : Left1 w4 w5 A c L yes L' v) : ∃ A' c', v = .slice A' (if yes then L' else L).length c' ∧ Row2 w4 w5 A c L A' c' (if yes then L' else L) := by
  rcases h with ⟨rfl, rfl⟩ | ⟨rfl, h⟩
  · exact ⟨A, c, rfl, .inl ⟨rfl, rfl, rfl⟩⟩
  · exact row2_R h

theorem grown_set (W : World) (b : Nat) (v : Value) : W.grownBy (W.setCell ⟨b, 0, none⟩ v) (some b) :=
  ⟨rfl, rfl, rfl, by simp, fun k _ hk => Below.heap_setCell _ _ _ k (fun e => hk (by rw [e]))⟩
theorem do_fin {w w3 w4 w5 : World} {g b hb : Nat} {A A' : Option Addr} {c c' : Nat} {L L1 L' : List S52} {v : Value} (hT : Tm w g b L) (hC : Kd.C k52 w A L.length L) (hcap : L.length ≤ c) (hTy : Ty w A)
    (h3 : Below w.heap.size w w3) (h4 : w3.grownBy w4 (some b)) (hT4 : Tm w4 g b L1) (h5 : Below w4.heap.size w4 w5) (hb2 : w4.heap[hb]? = some (.cells #[.slice none 0 0] 39 (0, 0))) (hbw : w.heap.size ≤ hb)
    (hr : Row2 w4 w5 A c L A' c' L') (hp : L1.Perm L') (hS : L'.Pairwise ltX) (hle : L'.length ≤ L.length + 1) (hN : Nn L') :
    ∀ yes : Bool, yes = true → DoR w g b L (.returned (.tuple #[.agg #[.slice A' L'.length c'], .bool yes])) ((w5.alloc (Obj.cells #[Value.slice A' L'.length c'] 39)).setCell ⟨hb, 0, none⟩ (.slice A' L'.length c')) := by
  rintro yes rfl
  have hgt := hT.gt
  have hw4 : w.heap.size ≤ w4.heap.size := Nat.le_trans h3.size h4.size
  have hw5 : w.heap.size ≤ w5.heap.size := Nat.le_trans hw4 h5.size
  have hB : Below w.heap.size w4 ((w5.alloc (Obj.cells #[Value.slice A' L'.length c'] 39)).setCell ⟨hb, 0, none⟩ (.slice A' L'.length c')) :=
    ((h5.mono hw4).alloc hw5 _).setCell hbw _
  have hG := kp h3 h4 hB
  have hb5 := (h5.block hb (blk_lt hb2)).trans hb2
  refine ⟨A', c', L', rfl, ⟨?_, ?_, ?_, hS, ?_, hN⟩, hG, hle⟩
  · have e1 := (hT4.below h5).below (below_alloc (Below.refl _ _) (Obj.cells #[Value.slice A' L'.length c'] 39))
    exact (e1.kept (grown_set _ hb (.slice A' L'.length c')) (fun e => by cases e; omega) (fun e => by cases e; omega)).perm hp
  · rcases hr with ⟨rfl, rfl, rfl⟩ | hr
    · exact stays52.C (hT.stays hG) hC
    · have r1 := Kd.R_below hr (below_alloc (Below.refl _ _) (Obj.cells #[Value.slice A' L'.length c'] 39))
      have b6 := blk_alloc hb5 (Obj.cells #[Value.slice A' L'.length c'] 39)
      exact (Kd.R_reads' (Kd.R_set r1 b6 (by decide) 0 (.slice A' L'.length c'))).2.2
  · rcases hr with ⟨rfl, rfl, rfl⟩ | hr
    · exact hcap
    · exact (Kd.R_reads' hr).2.1
  · rcases hr with ⟨rfl, rfl, rfl⟩ | hr
    · exact hT.ty hG hTy
    · have r1 := Kd.R_below hr (below_alloc (Below.refl _ _) (Obj.cells #[Value.slice A' L'.length c'] 39))
      have b6 := blk_alloc hb5 (Obj.cells #[Value.slice A' L'.length c'] 39)
      exact ty_R (Kd.R_set r1 b6 (by decide) 0 (.slice A' L'.length c'))
theorem set_pl1 (L : List S52) (k : ByteArray) (a : Int) : (setL L k a).Perm (if setB L k a then insL (delL L k) ⟨k, a⟩ else L) := by
  unfold setL
  split
  · exact (insL_perm (delL L k) ⟨k, a⟩).symm
  · exact .refl _
theorem set_pl2 {L : List S52} (k : ByteArray) (a : Int) (h : L.Pairwise ltX) : (if setB L k a then insL (delL L k) ⟨k, a⟩ else L).Pairwise ltX ∧ (if setB L k a then insL (delL L k) ⟨k, a⟩ else L).length ≤ L.length + 1 := by
  split
  · exact ⟨(ins_pl ⟨k, a⟩ h).1, (ins_pl ⟨k, a⟩ h).2.2⟩
  · exact ⟨h, Nat.le_succ _⟩
theorem del_nn {L : List S52} (k : ByteArray) (h : Nn L) : Nn (delL L k) := fun y hy => h y (List.mem_filter.1 hy).1
theorem keep_nn {L : List S52} (l : List ByteArray) (h : Nn L) : Nn (keepL L l) := fun y hy => h y (List.mem_filter.1 hy).1
theorem ins_nn {L : List S52} (x : S52) (h : Nn L) (hx : 0 ≤ x.f1) : Nn (insL (delL L x.f0) x) := fun y hy => by
  rcases List.mem_cons.1 ((insL_perm (delL L x.f0) x).mem_iff.1 hy) with rfl | hy
  · exact hx
  · exact del_nn _ h y hy
theorem set_nn {L : List S52} (k : ByteArray) (a : Int) (h : Nn L) : Nn (if setB L k a then insL (delL L k) ⟨k, a⟩ else L) := by
  split
  · rename_i hb
    unfold setB at hb
    rw [Bool.and_eq_true] at hb
    exact ins_nn ⟨k, a⟩ h (okT_iff.1 hb.2).1
  · exact h
theorem seen_nn {L : List S52} (k : ByteArray) (a c : Int) (h : Nn L) : Nn (if seenB L k a c then insL (delL L k) ⟨k, a + c⟩ else L) := by
  split
  · rename_i hb
    unfold seenB at hb
    rw [Bool.and_eq_true, Bool.and_eq_true] at hb
    exact ins_nn ⟨k, a + c⟩ h (okT_iff.1 hb.1.2).1
  · exact h
theorem seen_pl1 (L : List S52) (k : ByteArray) (a c : Int) : (seenL L k a c).Perm (if seenB L k a c then insL (delL L k) ⟨k, a + c⟩ else L) := by
  unfold seenL
  split
  · exact (insL_perm (delL L k) ⟨k, a + c⟩).symm
  · exact .refl _
theorem seen_pl2 {L : List S52} (k : ByteArray) (a c : Int) (h : L.Pairwise ltX) : (if seenB L k a c then insL (delL L k) ⟨k, a + c⟩ else L).Pairwise ltX ∧ (if seenB L k a c then insL (delL L k) ⟨k, a + c⟩ else L).length ≤ L.length + 1 := by
  split
  · exact ⟨(ins_pl ⟨k, a + c⟩ h).1, (ins_pl ⟨k, a + c⟩ h).2.2⟩
  · exact ⟨h, Nat.le_succ _⟩
set_option maxHeartbeats 4000000 in
theorem do_any (g b : Nat) (A : Option Addr) (c : Nat) (L : List S52) (x : S44) (B : Option Addr) (q : Nat) (w : World) (h : Pl w g b A c L) (hL : L.length < 1000000000)
    (hx0 : 0 ≤ x.f0 ∧ x.f0 < 256) (hx1 : x.f1.size ≤ maxLen) (hx4 : Kd.string.C w B x.f4.length x.f4) (hq : x.f4.length ≤ q) (hn4 : x.f4.length ≤ 1000000000) :
    Calls Try.prog 16 #[.pointer (some ⟨g, 0, none⟩), .agg #[.slice A L.length c], .agg #[.int .u8 x.f0, .string x.f1, .int .i64 x.f2, .int .i64 x.f3, .slice B x.f4.length q]] w (DoR w g b L) := by
  obtain ⟨hT, hC, hcap, hS, hTy, hN⟩ := h
  obtain ⟨hx00, hx01⟩ := hx0
  have hgt := hT.gt
  have HT := Aside0.mk hT
  have HC := Aside0.mk hC
  have HS := Aside0.mk hS
  have HX := Aside0.mk hx4
  have HTy := Aside0.mk hTy
  have HN := Aside0.mk hN
  have hLm : L.length < maxLen := by
    have : maxLen = 9223372036854775807 := rfl
    omega
  have hL' : L.length ≤ 1000000000 := by omega
  clear hT hC hS hx4 hTy hN
  by_cases k2 : x.f0 % 5 = 2
  · go_enter Try.func16, Try.ntmps16
    go_wp2_with (fail)
    obtain ⟨w3, hw3⟩ : ∃ w3, w3 = ((w.alloc (Obj.cells #[Value.slice A L.length c] 39)).alloc (Obj.cells #[Value.int IntKind.u8 x.f0, Value.string x.f1, Value.int IntKind.i64 x.f2, Value.int IntKind.i64 x.f3, Value.slice B x.f4.length q] 44)).alloc (Obj.cells #[Value.slice none 0 0] 39) := ⟨_, rfl⟩
    have h3 : Below w.heap.size w w3 := by rw [hw3]; exact below_alloc (below_alloc (below_alloc (Below.refl _ _) _) _) _
    have b0 : w3.heap[w.heap.size]? = some (Obj.cells #[Value.slice A L.length c] 39 (0, 0)) := by rw [hw3]; exact blk_alloc (blk_alloc (blk_new w _) _) _
    have b1 : w3.heap[w.heap.size + 1]? = some (Obj.cells #[Value.int IntKind.u8 x.f0, Value.string x.f1, Value.int IntKind.i64 x.f2, Value.int IntKind.i64 x.f3, Value.slice B x.f4.length q] 44 (0, 0)) := by rw [hw3]; refine blk_alloc ?_ _; have := blk_new (w.alloc (Obj.cells #[Value.slice A L.length c] 39)) (Obj.cells #[Value.int IntKind.u8 x.f0, Value.string x.f1, Value.int IntKind.i64 x.f2, Value.int IntKind.i64 x.f3, Value.slice B x.f4.length q] 44 (0, 0)); simpa using this
    have b2 : w3.heap[w.heap.size + 1 + 1]? = some (Obj.cells #[Value.slice none 0 0] 39 (0, 0)) := by rw [hw3]; have := blk_new ((w.alloc (Obj.cells #[Value.slice A L.length c] 39)).alloc (Obj.cells #[Value.int IntKind.u8 x.f0, Value.string x.f1, Value.int IntKind.i64 x.f2, Value.int IntKind.i64 x.f3, Value.slice B x.f4.length q] 44 (0, 0))) (Obj.cells #[Value.slice none 0 0] 39 (0, 0)); simpa using this
    rw [← hw3]
    clear hw3
    have H3 := Aside0.mk h3
    have HX3 := Aside0.mk (Kd.C_below HX.out h3)
    refine (set_any g b L x.f1 x.f2 w3 (HT.out.below h3) hx1 hLm).mono ?_
    rintro e w4 ⟨rfl, ht, hg⟩
    replace b0 := blk_grown b0 hg (fun e => by cases e; omega)
    replace b1 := blk_grown b1 hg (fun e => by cases e; omega)
    replace b2 := blk_grown b2 hg (fun e => by cases e; omega)
    have c0 : w4.cell? ⟨w.heap.size, 0, none⟩ = some (.slice A L.length c) := (blk_cell b0 0).trans rfl
    have a0 : w4.cell? ⟨w.heap.size + 1, 0, none⟩ = some (.int .u8 x.f0) := (blk_cell b1 0).trans rfl
    have a1 : w4.cell? ⟨w.heap.size + 1, 1, none⟩ = some (.string x.f1) := (blk_cell b1 1).trans rfl
    have a2 : w4.cell? ⟨w.heap.size + 1, 2, none⟩ = some (.int .i64 x.f2) := (blk_cell b1 2).trans rfl
    have a3 : w4.cell? ⟨w.heap.size + 1, 3, none⟩ = some (.int .i64 x.f3) := (blk_cell b1 3).trans rfl
    have a4 : w4.cell? ⟨w.heap.size + 1, 4, none⟩ = some (.slice B x.f4.length q) := (blk_cell b1 4).trans rfl
    have HT4 := Aside0.mk ht
    have HG4 := Aside0.mk hg
    have HS4 := Aside0.mk (((HT.out.below h3).stays hg))
    have B2 := Aside0.mk b2
    have HC4 := Aside0.mk (stays52.C HS4.out (Kd.C_below HC.out h3))
    have HX4 := Aside0.mk ((KStays.scalar Value.string (fun _ => rfl)).C HS4.out HX3.out)
    clear ht hg b0 b1 b2 h3
    go_wp2_with (fail)
    refine (rset_any A c L x.f1 x.f2 w4 HC4.out hcap hL').mono ?_
    rintro e w5 ⟨v, rfl, hr, hb⟩
    obtain ⟨A', c', hv, hr2⟩ := row2_L (c := c) hr
    have HR := Aside0.mk hr2
    obtain ⟨L', hL''⟩ : ∃ L', L' = if setB L x.f1 x.f2 then insL (delL L x.f1) ⟨x.f1, x.f2⟩ else L := ⟨_, rfl⟩
    rw [← hL''] at hv HR
    obtain ⟨m, hm⟩ : ∃ m, m = L'.length := ⟨_, rfl⟩
    rw [← hm] at hv
    subst hv
    have b5 := (hb.block _ (blk_lt B2.out)).trans B2.out
    have c5 : w5.cell? ⟨w.heap.size + 1 + 1, 0, none⟩ = some (.slice none 0 0) := (blk_cell b5 0).trans rfl
    have f5 := blk_frozen b5 0
    have b6 := blk_alloc b5 (Obj.cells #[Value.slice A' m c'] 39)
    have c6 : (w5.alloc (Obj.cells #[Value.slice A' m c'] 39)).cell? ⟨w.heap.size + 1 + 1, 0, none⟩ = some (.slice none 0 0) := (blk_cell b6 0).trans rfl
    have f6 := blk_frozen b6 0
    have c7 : ((w5.alloc (Obj.cells #[Value.slice A' m c'] 39)).setCell ⟨w.heap.size + 1 + 1, 0, none⟩ (.slice A' m c')).cell? ⟨w.heap.size + 1 + 1, 0, none⟩ = some (.slice A' m c') := (blk_cell (blk_set b6 0 _) 0).trans rfl
    have HM := Aside0.mk hm
    have HLL := Aside0.mk hL''
    clear hm hL''
    have H5 := Aside0.mk hb
    clear hb hr hr2 b5 b6
    go_wp2_with (fail)
    have HF := do_fin (v := .nilFunc) HT.out HC.out hcap HTy.out H3.out HG4.out HT4.out H5.out B2.out (Nat.le_succ_of_le (Nat.le_succ _)) HR.out (by rw [HLL.out]; exact set_pl1 L x.f1 x.f2) (by rw [HLL.out]; exact (set_pl2 x.f1 x.f2 HS.out).1) (by rw [HLL.out]; exact (set_pl2 x.f1 x.f2 HS.out).2) (by rw [HLL.out]; exact set_nn x.f1 x.f2 HN.out) true rfl
    rw [← HM.out] at HF
    refine bodyPost_ret (v := .tuple #[.agg #[.slice A' m c'], .bool true]) (by simp [results, Try.results16, go_sem, c7]) rfl ?_
    exact HF
  · by_cases k3 : x.f0 % 5 = 3
    · go_enter Try.func16, Try.ntmps16
      go_wp2_with (fail)
      obtain ⟨w3, hw3⟩ : ∃ w3, w3 = ((w.alloc (Obj.cells #[Value.slice A L.length c] 39)).alloc (Obj.cells #[Value.int IntKind.u8 x.f0, Value.string x.f1, Value.int IntKind.i64 x.f2, Value.int IntKind.i64 x.f3, Value.slice B x.f4.length q] 44)).alloc (Obj.cells #[Value.slice none 0 0] 39) := ⟨_, rfl⟩
      have h3 : Below w.heap.size w w3 := by rw [hw3]; exact below_alloc (below_alloc (below_alloc (Below.refl _ _) _) _) _
      have b0 : w3.heap[w.heap.size]? = some (Obj.cells #[Value.slice A L.length c] 39 (0, 0)) := by rw [hw3]; exact blk_alloc (blk_alloc (blk_new w _) _) _
      have b1 : w3.heap[w.heap.size + 1]? = some (Obj.cells #[Value.int IntKind.u8 x.f0, Value.string x.f1, Value.int IntKind.i64 x.f2, Value.int IntKind.i64 x.f3, Value.slice B x.f4.length q] 44 (0, 0)) := by rw [hw3]; refine blk_alloc ?_ _; have := blk_new (w.alloc (Obj.cells #[Value.slice A L.length c] 39)) (Obj.cells #[Value.int IntKind.u8 x.f0, Value.string x.f1, Value.int IntKind.i64 x.f2, Value.int IntKind.i64 x.f3, Value.slice B x.f4.length q] 44 (0, 0)); simpa using this
      have b2 : w3.heap[w.heap.size + 1 + 1]? = some (Obj.cells #[Value.slice none 0 0] 39 (0, 0)) := by rw [hw3]; have := blk_new ((w.alloc (Obj.cells #[Value.slice A L.length c] 39)).alloc (Obj.cells #[Value.int IntKind.u8 x.f0, Value.string x.f1, Value.int IntKind.i64 x.f2, Value.int IntKind.i64 x.f3, Value.slice B x.f4.length q] 44 (0, 0))) (Obj.cells #[Value.slice none 0 0] 39 (0, 0)); simpa using this
      rw [← hw3]
      clear hw3
      have H3 := Aside0.mk h3
      have HX3 := Aside0.mk (Kd.C_below HX.out h3)
      refine (drop_any g b L x.f1 w3 (HT.out.below h3) hx1).mono ?_
      rintro e w4 ⟨rfl, ht, hg⟩
      replace b0 := blk_grown b0 hg (fun e => by cases e; omega)
      replace b1 := blk_grown b1 hg (fun e => by cases e; omega)
      replace b2 := blk_grown b2 hg (fun e => by cases e; omega)
      have c0 : w4.cell? ⟨w.heap.size, 0, none⟩ = some (.slice A L.length c) := (blk_cell b0 0).trans rfl
      have a0 : w4.cell? ⟨w.heap.size + 1, 0, none⟩ = some (.int .u8 x.f0) := (blk_cell b1 0).trans rfl
      have a1 : w4.cell? ⟨w.heap.size + 1, 1, none⟩ = some (.string x.f1) := (blk_cell b1 1).trans rfl
      have a2 : w4.cell? ⟨w.heap.size + 1, 2, none⟩ = some (.int .i64 x.f2) := (blk_cell b1 2).trans rfl
      have a3 : w4.cell? ⟨w.heap.size + 1, 3, none⟩ = some (.int .i64 x.f3) := (blk_cell b1 3).trans rfl
      have a4 : w4.cell? ⟨w.heap.size + 1, 4, none⟩ = some (.slice B x.f4.length q) := (blk_cell b1 4).trans rfl
      have HT4 := Aside0.mk ht
      have HG4 := Aside0.mk hg
      have HS4 := Aside0.mk (((HT.out.below h3).stays hg))
      have B2 := Aside0.mk b2
      have HC4 := Aside0.mk (stays52.C HS4.out (Kd.C_below HC.out h3))
      have HX4 := Aside0.mk ((KStays.scalar Value.string (fun _ => rfl)).C HS4.out HX3.out)
      clear ht hg b0 b1 b2 h3
      go_wp2_with (fail)
      refine (rdrop_any A c L x.f1 w4 HC4.out hcap hL').mono ?_
      rintro e w5 ⟨v, rfl, hr, hb⟩
      obtain ⟨A', c', hv, hr2⟩ := row2_R (A := A) (c := c) (L := L) hr
      have HR := Aside0.mk hr2
      obtain ⟨L', hL''⟩ : ∃ L', L' = delL L x.f1 := ⟨_, rfl⟩
      rw [← hL''] at hv HR
      obtain ⟨m, hm⟩ : ∃ m, m = L'.length := ⟨_, rfl⟩
      rw [← hm] at hv
      subst hv
      have b5 := (hb.block _ (blk_lt B2.out)).trans B2.out
      have c5 : w5.cell? ⟨w.heap.size + 1 + 1, 0, none⟩ = some (.slice none 0 0) := (blk_cell b5 0).trans rfl
      have f5 := blk_frozen b5 0
      have b6 := blk_alloc b5 (Obj.cells #[Value.slice A' m c'] 39)
      have c6 : (w5.alloc (Obj.cells #[Value.slice A' m c'] 39)).cell? ⟨w.heap.size + 1 + 1, 0, none⟩ = some (.slice none 0 0) := (blk_cell b6 0).trans rfl
      have f6 := blk_frozen b6 0
      have c7 : ((w5.alloc (Obj.cells #[Value.slice A' m c'] 39)).setCell ⟨w.heap.size + 1 + 1, 0, none⟩ (.slice A' m c')).cell? ⟨w.heap.size + 1 + 1, 0, none⟩ = some (.slice A' m c') := (blk_cell (blk_set b6 0 _) 0).trans rfl
      have HM := Aside0.mk hm
      have HLL := Aside0.mk hL''
      clear hm hL''
      have H5 := Aside0.mk hb
      clear hb hr hr2 b5 b6
      go_wp2_with (fail)
      have HF := do_fin (v := .nilFunc) HT.out HC.out hcap HTy.out H3.out HG4.out HT4.out H5.out B2.out (Nat.le_succ_of_le (Nat.le_succ _)) HR.out (by rw [HLL.out]) (by rw [HLL.out]; exact HS.out.filter _) (by rw [HLL.out]; exact Nat.le_succ_of_le (delL_le L x.f1)) (by rw [HLL.out]; exact del_nn x.f1 HN.out) true rfl
      rw [← HM.out] at HF
      refine bodyPost_ret (v := .tuple #[.agg #[.slice A' m c'], .bool true]) (by simp [results, Try.results16, go_sem, c7]) rfl ?_
      exact HF
    · by_cases k4 : x.f0 % 5 = 4
      · go_enter Try.func16, Try.ntmps16
        go_wp2_with (fail)
        obtain ⟨w3, hw3⟩ : ∃ w3, w3 = ((w.alloc (Obj.cells #[Value.slice A L.length c] 39)).alloc (Obj.cells #[Value.int IntKind.u8 x.f0, Value.string x.f1, Value.int IntKind.i64 x.f2, Value.int IntKind.i64 x.f3, Value.slice B x.f4.length q] 44)).alloc (Obj.cells #[Value.slice none 0 0] 39) := ⟨_, rfl⟩
        have h3 : Below w.heap.size w w3 := by rw [hw3]; exact below_alloc (below_alloc (below_alloc (Below.refl _ _) _) _) _
        have b0 : w3.heap[w.heap.size]? = some (Obj.cells #[Value.slice A L.length c] 39 (0, 0)) := by rw [hw3]; exact blk_alloc (blk_alloc (blk_new w _) _) _
        have b1 : w3.heap[w.heap.size + 1]? = some (Obj.cells #[Value.int IntKind.u8 x.f0, Value.string x.f1, Value.int IntKind.i64 x.f2, Value.int IntKind.i64 x.f3, Value.slice B x.f4.length q] 44 (0, 0)) := by rw [hw3]; refine blk_alloc ?_ _; have := blk_new (w.alloc (Obj.cells #[Value.slice A L.length c] 39)) (Obj.cells #[Value.int IntKind.u8 x.f0, Value.string x.f1, Value.int IntKind.i64 x.f2, Value.int IntKind.i64 x.f3, Value.slice B x.f4.length q] 44 (0, 0)); simpa using this
        have b2 : w3.heap[w.heap.size + 1 + 1]? = some (Obj.cells #[Value.slice none 0 0] 39 (0, 0)) := by rw [hw3]; have := blk_new ((w.alloc (Obj.cells #[Value.slice A L.length c] 39)).alloc (Obj.cells #[Value.int IntKind.u8 x.f0, Value.string x.f1, Value.int IntKind.i64 x.f2, Value.int IntKind.i64 x.f3, Value.slice B x.f4.length q] 44 (0, 0))) (Obj.cells #[Value.slice none 0 0] 39 (0, 0)); simpa using this
        rw [← hw3]
        clear hw3
        have H3 := Aside0.mk h3
        have HX3 := Aside0.mk (Kd.C_below HX.out h3)
        refine (keep_any g b L B q x.f4 w3 (HT.out.below h3) HX3.out hL').mono ?_
        rintro e w4 ⟨rfl, ht, hg⟩
        replace b0 := blk_grown b0 hg (fun e => by cases e; omega)
        replace b1 := blk_grown b1 hg (fun e => by cases e; omega)
        replace b2 := blk_grown b2 hg (fun e => by cases e; omega)
        have c0 : w4.cell? ⟨w.heap.size, 0, none⟩ = some (.slice A L.length c) := (blk_cell b0 0).trans rfl
        have a0 : w4.cell? ⟨w.heap.size + 1, 0, none⟩ = some (.int .u8 x.f0) := (blk_cell b1 0).trans rfl
        have a1 : w4.cell? ⟨w.heap.size + 1, 1, none⟩ = some (.string x.f1) := (blk_cell b1 1).trans rfl
        have a2 : w4.cell? ⟨w.heap.size + 1, 2, none⟩ = some (.int .i64 x.f2) := (blk_cell b1 2).trans rfl
        have a3 : w4.cell? ⟨w.heap.size + 1, 3, none⟩ = some (.int .i64 x.f3) := (blk_cell b1 3).trans rfl
        have a4 : w4.cell? ⟨w.heap.size + 1, 4, none⟩ = some (.slice B x.f4.length q) := (blk_cell b1 4).trans rfl
        have HT4 := Aside0.mk ht
        have HG4 := Aside0.mk hg
        have HS4 := Aside0.mk (((HT.out.below h3).stays hg))
        have B2 := Aside0.mk b2
        have HC4 := Aside0.mk (stays52.C HS4.out (Kd.C_below HC.out h3))
        have HX4 := Aside0.mk ((KStays.scalar Value.string (fun _ => rfl)).C HS4.out HX3.out)
        clear ht hg b0 b1 b2 h3
        go_wp2_with (fail)
        refine (rkeep_any A c L B q x.f4 w4 HC4.out hcap HX4.out hq hL' hn4).mono ?_
        rintro e w5 ⟨v, rfl, hr, hb⟩
        obtain ⟨A', c', hv, hr2⟩ := row2_R (A := A) (c := c) (L := L) hr
        have HR := Aside0.mk hr2
        obtain ⟨L', hL''⟩ : ∃ L', L' = keepL L x.f4 := ⟨_, rfl⟩
        rw [← hL''] at hv HR
        obtain ⟨m, hm⟩ : ∃ m, m = L'.length := ⟨_, rfl⟩
        rw [← hm] at hv
        subst hv
        have b5 := (hb.block _ (blk_lt B2.out)).trans B2.out
        have c5 : w5.cell? ⟨w.heap.size + 1 + 1, 0, none⟩ = some (.slice none 0 0) := (blk_cell b5 0).trans rfl
        have f5 := blk_frozen b5 0
        have b6 := blk_alloc b5 (Obj.cells #[Value.slice A' m c'] 39)
        have c6 : (w5.alloc (Obj.cells #[Value.slice A' m c'] 39)).cell? ⟨w.heap.size + 1 + 1, 0, none⟩ = some (.slice none 0 0) := (blk_cell b6 0).trans rfl
        have f6 := blk_frozen b6 0
        have c7 : ((w5.alloc (Obj.cells #[Value.slice A' m c'] 39)).setCell ⟨w.heap.size + 1 + 1, 0, none⟩ (.slice A' m c')).cell? ⟨w.heap.size + 1 + 1, 0, none⟩ = some (.slice A' m c') := (blk_cell (blk_set b6 0 _) 0).trans rfl
        have HM := Aside0.mk hm
        have HLL := Aside0.mk hL''
        clear hm hL''
        have H5 := Aside0.mk hb
        clear hb hr hr2 b5 b6
        go_wp2_with (fail)
        have HF := do_fin (v := .nilFunc) HT.out HC.out hcap HTy.out H3.out HG4.out HT4.out H5.out B2.out (Nat.le_succ_of_le (Nat.le_succ _)) HR.out (by rw [HLL.out]) (by rw [HLL.out]; exact HS.out.filter _) (by rw [HLL.out]; exact Nat.le_succ_of_le (List.length_filter_le _ _)) (by rw [HLL.out]; exact keep_nn x.f4 HN.out) true rfl
        rw [← HM.out] at HF
        refine bodyPost_ret (v := .tuple #[.agg #[.slice A' m c'], .bool true]) (by simp [results, Try.results16, go_sem, c7]) rfl ?_
        exact HF
      · go_enter Try.func16, Try.ntmps16
        go_wp2_with (fail)
        obtain ⟨w3, hw3⟩ : ∃ w3, w3 = ((w.alloc (Obj.cells #[Value.slice A L.length c] 39)).alloc (Obj.cells #[Value.int IntKind.u8 x.f0, Value.string x.f1, Value.int IntKind.i64 x.f2, Value.int IntKind.i64 x.f3, Value.slice B x.f4.length q] 44)).alloc (Obj.cells #[Value.slice none 0 0] 39) := ⟨_, rfl⟩
        have h3 : Below w.heap.size w w3 := by rw [hw3]; exact below_alloc (below_alloc (below_alloc (Below.refl _ _) _) _) _
        have b0 : w3.heap[w.heap.size]? = some (Obj.cells #[Value.slice A L.length c] 39 (0, 0)) := by rw [hw3]; exact blk_alloc (blk_alloc (blk_new w _) _) _
        have b1 : w3.heap[w.heap.size + 1]? = some (Obj.cells #[Value.int IntKind.u8 x.f0, Value.string x.f1, Value.int IntKind.i64 x.f2, Value.int IntKind.i64 x.f3, Value.slice B x.f4.length q] 44 (0, 0)) := by rw [hw3]; refine blk_alloc ?_ _; have := blk_new (w.alloc (Obj.cells #[Value.slice A L.length c] 39)) (Obj.cells #[Value.int IntKind.u8 x.f0, Value.string x.f1, Value.int IntKind.i64 x.f2, Value.int IntKind.i64 x.f3, Value.slice B x.f4.length q] 44 (0, 0)); simpa using this
        have b2 : w3.heap[w.heap.size + 1 + 1]? = some (Obj.cells #[Value.slice none 0 0] 39 (0, 0)) := by rw [hw3]; have := blk_new ((w.alloc (Obj.cells #[Value.slice A L.length c] 39)).alloc (Obj.cells #[Value.int IntKind.u8 x.f0, Value.string x.f1, Value.int IntKind.i64 x.f2, Value.int IntKind.i64 x.f3, Value.slice B x.f4.length q] 44 (0, 0))) (Obj.cells #[Value.slice none 0 0] 39 (0, 0)); simpa using this
        rw [← hw3]
        clear hw3
        have H3 := Aside0.mk h3
        have HX3 := Aside0.mk (Kd.C_below HX.out h3)
        refine (seen_any g b L x.f1 x.f2 x.f3 w3 (HT.out.below h3) hx1 hLm).mono ?_
        rintro e w4 ⟨rfl, ht, hg⟩
        replace b0 := blk_grown b0 hg (fun e => by cases e; omega)
        replace b1 := blk_grown b1 hg (fun e => by cases e; omega)
        replace b2 := blk_grown b2 hg (fun e => by cases e; omega)
        have c0 : w4.cell? ⟨w.heap.size, 0, none⟩ = some (.slice A L.length c) := (blk_cell b0 0).trans rfl
        have a0 : w4.cell? ⟨w.heap.size + 1, 0, none⟩ = some (.int .u8 x.f0) := (blk_cell b1 0).trans rfl
        have a1 : w4.cell? ⟨w.heap.size + 1, 1, none⟩ = some (.string x.f1) := (blk_cell b1 1).trans rfl
        have a2 : w4.cell? ⟨w.heap.size + 1, 2, none⟩ = some (.int .i64 x.f2) := (blk_cell b1 2).trans rfl
        have a3 : w4.cell? ⟨w.heap.size + 1, 3, none⟩ = some (.int .i64 x.f3) := (blk_cell b1 3).trans rfl
        have a4 : w4.cell? ⟨w.heap.size + 1, 4, none⟩ = some (.slice B x.f4.length q) := (blk_cell b1 4).trans rfl
        have HT4 := Aside0.mk ht
        have HG4 := Aside0.mk hg
        have HS4 := Aside0.mk (((HT.out.below h3).stays hg))
        have B2 := Aside0.mk b2
        have HC4 := Aside0.mk (stays52.C HS4.out (Kd.C_below HC.out h3))
        have HX4 := Aside0.mk ((KStays.scalar Value.string (fun _ => rfl)).C HS4.out HX3.out)
        clear ht hg b0 b1 b2 h3
        go_wp2_with (fail)
        refine (rseen_any A c L x.f1 x.f2 x.f3 w4 HC4.out hcap hL').mono ?_
        rintro e w5 ⟨v, rfl, hr, hb⟩
        obtain ⟨A', c', hv, hr2⟩ := row2_L (c := c) hr
        have HR := Aside0.mk hr2
        obtain ⟨L', hL''⟩ : ∃ L', L' = if seenB L x.f1 x.f2 x.f3 then insL (delL L x.f1) ⟨x.f1, x.f2 + x.f3⟩ else L := ⟨_, rfl⟩
        rw [← hL''] at hv HR
        obtain ⟨m, hm⟩ : ∃ m, m = L'.length := ⟨_, rfl⟩
        rw [← hm] at hv
        subst hv
        have b5 := (hb.block _ (blk_lt B2.out)).trans B2.out
        have c5 : w5.cell? ⟨w.heap.size + 1 + 1, 0, none⟩ = some (.slice none 0 0) := (blk_cell b5 0).trans rfl
        have f5 := blk_frozen b5 0
        have b6 := blk_alloc b5 (Obj.cells #[Value.slice A' m c'] 39)
        have c6 : (w5.alloc (Obj.cells #[Value.slice A' m c'] 39)).cell? ⟨w.heap.size + 1 + 1, 0, none⟩ = some (.slice none 0 0) := (blk_cell b6 0).trans rfl
        have f6 := blk_frozen b6 0
        have c7 : ((w5.alloc (Obj.cells #[Value.slice A' m c'] 39)).setCell ⟨w.heap.size + 1 + 1, 0, none⟩ (.slice A' m c')).cell? ⟨w.heap.size + 1 + 1, 0, none⟩ = some (.slice A' m c') := (blk_cell (blk_set b6 0 _) 0).trans rfl
        have HM := Aside0.mk hm
        have HLL := Aside0.mk hL''
        clear hm hL''
        have H5 := Aside0.mk hb
        clear hb hr hr2 b5 b6
        go_wp2_with (fail)
        have HF := do_fin (v := .nilFunc) HT.out HC.out hcap HTy.out H3.out HG4.out HT4.out H5.out B2.out (Nat.le_succ_of_le (Nat.le_succ _)) HR.out (by rw [HLL.out]; exact seen_pl1 L x.f1 x.f2 x.f3) (by rw [HLL.out]; exact (seen_pl2 x.f1 x.f2 x.f3 HS.out).1) (by rw [HLL.out]; exact (seen_pl2 x.f1 x.f2 x.f3 HS.out).2) (by rw [HLL.out]; exact seen_nn x.f1 x.f2 x.f3 HN.out) true rfl
        rw [← HM.out] at HF
        refine bodyPost_ret (v := .tuple #[.agg #[.slice A' m c'], .bool true]) (by simp [results, Try.results16, go_sem, c7]) rfl ?_
        exact HF
end Go.Proofs.Ytbocdfpgjkjilaa.T
