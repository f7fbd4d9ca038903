/- group.sorted of one alert. -/
import Derived.Test.YtpbemhjiffnamaaDoorP0
import Derived.Test.YtpbemhjiffnamaaDoorTabS
import Derived.Shelf.SlGeneric
import Derived.Shelf.SlicesE.Clone
import Derived.Ground.SlgnProg
set_option linter.unusedVariables false
set_option linter.unusedSimpArgs false
namespace Go.Proofs
open Go.Shelf
def Tryd.layCa_ren : Go.Shelf.Ren := ⟨fun | 41 => 34 | n => n, fun | 22 => 26 | 23 => 33 | 4 => 4 | n => n, fun | n => n⟩
theorem Tryd.layCa : Go.Proofs.SlLaysE0.n41 Tryd.prog Tryd.layCa_ren := {
  mixed := by kernel_rfl
  f41 := ⟨Tryd.f34.name, by decide, Tryd.func34.trans (congrArg some (by kernel_rfl))⟩
  t4 := Tryd.underlying4
  a4 := Tryd.isAgg4
  z4 := Tryd.sizeOf4
  v4 := Tryd.zeroValue4
  t22 := Tryd.underlying26
  a22 := Tryd.isAgg26
  z22 := Tryd.sizeOf26
  v22 := Tryd.zeroValue26 }
end Go.Proofs
namespace Go.Proofs.YtpbemhjiffnamaaDoor.G
open Go.RowKit Go.Shelf Go.Lib Go.Proofs.YtpbemhjiffnamaaDoorW.PrintWords Go.Proofs.YtpbemhjiffnamaaDoorW.PrintMore Go.Proofs.YtpbemhjiffnamaaDoor.P
theorem info33' : ∃ i0 : TypeInfo, Tryd.prog.info? 33 = some i0 ∧ i0.zero = some (.agg #[(.slice none 0 0), (.int .i64 0), (.int .i64 0)]) ∧ i0.size = 3 ∧ i0.bytes = 40 := by
  have h := info33
  cases hi : Tryd.prog.info? 33 with
  | none => rw [hi] at h; cases h
  | some i0 =>
    rw [hi] at h
    simp only [Option.map_some, Option.some.injEq, Prod.mk.injEq] at h
    exact ⟨i0, rfl, h.1, h.2.1, h.2.2⟩
theorem clone_alert (b off c : Nat) (v : Value) (s e : Int) (w : World) (hv : v.oneCell' = true) (h0 : w.cell? ⟨b, off, none⟩ = some v) (h1 : w.cell? ⟨b, off + 1, none⟩ = some (.int .i64 s)) (h2 : w.cell? ⟨b, off + 2, none⟩ = some (.int .i64 e)) :
    Calls Tryd.prog 34 #[.slice (some ⟨b, off, none⟩) 1 c] w fun en w' => ∃ g cap cur, en = .returned (.slice (some ⟨g, 0, none⟩) 1 cap) ∧ w.heap.size ≤ g ∧ w'.heap[g]? = some (.cells cur 33 (0, 0)) ∧ 1 ≤ cap ∧ cur.size = cap * 3 ∧ cur[0]? = some v ∧ cur[1]? = some (.int .i64 s) ∧ cur[2]? = some (.int .i64 e) ∧ Below w.heap.size w w' := by
  obtain ⟨i0, e0, e1, e2, e3⟩ := info33'
  refine (AnyE.slices_Clone Tryd.layCa i0 _ 3 40 e0 e1 e2 e3 rfl (by omega) Tryd.sizeOf33 b off 1 c [v, .int .i64 s, .int .i64 e] w rfl (by have : maxLen = 9223372036854775807 := rfl; omega) (by omega) (fun j u hu => ?_) (fun u hu => ?_)).mono ?_
  · rcases j with _ | _ | _ | j
    · obtain rfl : v = u := by simpa using hu
      exact h0
    · obtain rfl : Value.int .i64 s = u := by simpa using hu
      exact h1
    · obtain rfl : Value.int .i64 e = u := by simpa using hu
      exact h2
    · simp at hu
  · simp at hu
    rcases hu with rfl | rfl | rfl
    · exact hv
    · rfl
    · rfl
  · rintro en w' ⟨v', rfl, ⟨_, ho⟩, hn, hb⟩
    rcases ho with ⟨rfl, _⟩ | ⟨g, cap, cur, rfl, hg, hh, h1, h2, h3, h4⟩
    · exact absurd rfl hn
    · have hget : ∀ j, j < 3 → cur[j]? = [v, .int .i64 s, .int .i64 e][j]? := fun j hj => by
        rw [← h4, List.getElem?_take_of_lt (by omega), Array.getElem?_toList]
      exact ⟨g, cap, cur, rfl, hg, hh, h1, h3, hget 0 (by omega), hget 1 (by omega), hget 2 (by omega), hb⟩
set_option maxHeartbeats 2000000 in
set_option maxRecDepth 100000 in
theorem ins_one (A : Option Addr) (c : Nat) (f : Value) (w : World) :
    Calls Tryd.prog 51 #[.slice A 1 c, .int .i64 0, .int .i64 1, f] w fun en w' => en = .returned (.tuple #[]) ∧ w' = w := by
  go_enter Tryd.func51, Tryd.ntmps51
  go_wp2_with (fail)
  go_loopg [8] 0 (fun kq v8 wr => v8 = .int .i64 1 ∧ wr = w)
  case atStart => exact ⟨rfl, rfl⟩
  case round =>
    obtain ⟨rfl, rfl⟩ := hrel
    go_wp2_with (fail)
    go_end0
    exact ⟨rfl, rfl⟩
set_option maxHeartbeats 2000000 in
set_option maxRecDepth 100000 in
theorem stable_one (A : Option Addr) (c : Nat) (f : Value) (w : World) :
    Calls Tryd.prog 45 #[.slice A 1 c, .int .i64 1, f] w fun en w' => en = .returned (.tuple #[]) ∧ w' = w := by
  go_enter Tryd.func45, Tryd.ntmps45
  go_wp2_with (fail)
  go_loopg [7, 8] 0 (fun kq v7 v8 wr => v7 = .int .i64 0 ∧ v8 = .int .i64 20 ∧ wr = w)
  case atStart => exact ⟨rfl, rfl, rfl⟩
  case round =>
    obtain ⟨rfl, rfl, rfl⟩ := hrel
    go_wp2_with (fail)
    refine (ins_one A c f _).mono ?_
    rintro en w1 ⟨rfl, rfl⟩
    go_wp2_with (fail)
    go_loopg [6, 7, 8, 9] 0 (fun kq v6 v7 v8 v9 wr => v6 = .int .i64 20 ∧ wr = w1)
    case atStart => exact ⟨rfl, rfl⟩
    case round =>
      obtain ⟨rfl, rfl⟩ := hrel
      go_wp2_with (fail)
      go_end0
      exact ⟨rfl, rfl⟩
theorem sortStable_one (A : Option Addr) (c : Nat) (f : Value) (w : World) :
    Calls Tryd.prog 35 #[.slice A 1 c, f] w fun en w' => en = .returned (.tuple #[]) ∧ w' = w := by
  go_enter Tryd.func35, Tryd.ntmps35
  go_wp2_with (fail)
  refine (stable_one A c f _).mono ?_
  rintro en w1 ⟨rfl, rfl⟩
  go_wp2_with (fail)
  go_end0
  exact ⟨rfl, rfl⟩
set_option maxHeartbeats 2000000 in
set_option maxRecDepth 100000 in
theorem clone_pairs (A : Option Addr) (c : Nat) (l : List S40) (w : World) (h : Kd.C k40 w A l.length l) (hl : l.length ≤ 1000000) :
    Calls Tryd.prog 38 #[.slice A l.length c] w fun en w' => ∃ v, en = .returned v ∧ Kd.R k40 40 w' w.heap.size (fun _ => True) v l ∧ Below w.heap.size w w' := by
  have heq := fun (W : World) (n c' : Nat) => Lib.run_eql_slice_nil (P := Tryd.prog) W 22 40 A n c' 0 0 Tryd.underlying22
  have HC := Aside0.mk h
  obtain ⟨n, hn⟩ : ∃ n, n = l.length := ⟨_, rfl⟩
  have HN := Aside0.mk hn
  rw [← hn]
  clear h
  cases A with
  | none =>
    go_enter Tryd.func38, Tryd.ntmps38
    go_wp2_with (fail)
    go_ret
    have : l = [] := by
      have := HC.out.2.2
      cases l with
      | nil => rfl
      | cons x l => obtain ⟨ad, had, _⟩ := this (by simp); cases had
    subst this
    exact ⟨_, rfl, Kd.R_nil _ _ _ _ _, Below.refl _ _⟩
  | some ad =>
    have HL := Aside0.mk hl
    clear hl
    have HO := Aside0.mk (show Kd.R k40 40 (w.alloc (.cells #[] 40)) w.heap.size (fun _ => True) (.slice (some ⟨w.heap.size, 0, none⟩) 0 0) [] from
      ⟨fun _ _ => trivial, [], World.ownsRow_made w #[] 0 (Nat.le_refl _) (Nat.zero_le _) (by simp), rfl, fun j x hj => by simp at hj⟩)
    have HR := Aside0.mk (show ReadsRow (fun x cs => cs = [.string x.f0, .string x.f1]) 2 (w.alloc (.cells #[] 40)) (some ad) n l by
      have h := Kd.C_alloc HC.out (.cells #[] 40)
      rw [← hn] at h
      exact ⟨h.1, h.2.1, fun hp => by
        obtain ⟨a0, ha, hc⟩ := h.2.2 hp
        refine ⟨a0, ha, fun j p hj => ?_⟩
        obtain ⟨cs, h1, h2, h3⟩ := hc j p hj
        exact ⟨cs, h1, k40_open h2, h3⟩⟩)
    clear hn
    go_enter Tryd.func38, Tryd.ntmps38
    go_wp2_with ((with_reducible refine gate_builtin (b := .append) (xs := #[.tmp 5, .tmp 6]) rfl ?_); at_builtin; go_loud (refine Kd.R_append_rows k40 (w0 := w) w.heap.size rfl (.tmp 5) (.tmp 6) 22 40 (.agg #[(.string ⟨#[]⟩), (.string ⟨#[]⟩)]) 32 rfl Tryd.underlying22 info40 rfl (by decide) (by omega) (.slice (some ⟨w.heap.size, 0, none⟩) 0 0) [] l (some ad) n c (fun _ => True) (fun _ => False) rfl rfl HO.out HR.out (fun x cs hk => by rw [hk]; exact k40_mkM _ _ _ x) (fun _ hk => hk.elim) (fun _ _ => trivial) (below_alloc (Below.refl _ _) _) (below_alloc (Below.refl _ w) _).size (by have := HL.out; have := HN.out; simp only [List.length_nil]; omega) ?_; intro v1 w1 ho hb hg hat))
    go_ret
    exact ⟨_, rfl, by simpa using ho, hb⟩
theorem add0 (a : Addr) : a.add 0 = a := by unfold Addr.add; simp
theorem keepA {w w' : World} {g : Nat} {cs : Array Value} {t : TypeId} (hb : w.heap[g]? = some (.cells cs t (0, 0))) (hw : Below w.heap.size w w') : w'.heap[g]? = some (.cells cs t (0, 0)) := (hw.block g (blk_lt hb)).trans hb
theorem clone_one (A : Option Addr) (c : Nat) (x : S33) (w : World) (h : Kd.C k33 w A 1 [x]) :
    Calls Tryd.prog 34 #[.slice A 1 c] w fun en w' => ∃ g cap cur A0 c0, en = .returned (.slice (some ⟨g, 0, none⟩) 1 cap) ∧ w.heap.size ≤ g ∧ w'.heap[g]? = some (.cells cur 33 (0, 0)) ∧ 1 ≤ cap ∧ cur.size = cap * 3 ∧ cur[0]? = some (.slice A0 x.f0.length c0) ∧ cur[1]? = some (.int .i64 x.f1) ∧ cur[2]? = some (.int .i64 x.f2) ∧ x.f0.length ≤ c0 ∧ Kd.C k40 w A0 x.f0.length x.f0 ∧ Below w.heap.size w w' := by
  obtain ⟨ad, A0, c0, rfl, q0, q1, q2, hl, hC⟩ := at_T33 h 0 (by omega) (by omega)
  rw [show (0 : Int).toNat * 3 = 0 from rfl, add0] at q0 q1 q2
  obtain ⟨b, off, sp⟩ := ad
  cases sp with
  | some s =>
    exfalso
    simp only [World.cell?] at q0
    split at q0 <;> simp_all
  | none =>
    refine (clone_alert b off c _ x.f1 x.f2 w rfl q0 q1 q2).mono ?_
    rintro en w' ⟨g, cap, cur, h1, h2, h3, h4, h5, h6, h7, h8, h9⟩
    exact ⟨g, cap, cur, A0, c0, h1, h2, h3, h4, h5, h6, h7, h8, hl, hC, h9⟩
theorem V_one {W : World} {base g cap : Nat} {cur : Array Value} {x : S33} {A3 : Option Addr} {c3 : Nat} (hg : base ≤ g) (hb : W.heap[g]? = some (.cells cur 33 (0, 0)))
    (q0 : cur[0]? = some (.slice A3 x.f0.length c3)) (q1 : cur[1]? = some (.int .i64 x.f1)) (q2 : cur[2]? = some (.int .i64 x.f2)) (h1 : 1 ≤ cap) (hl : x.f0.length ≤ c3) (hF : Kd.F k40 W (fun k => base ≤ k) A3 x.f0.length x.f0) :
    Kd.V k33 33 W base (fun k_ => (base ≤ k_)) (.slice (some ⟨g, 0, none⟩) 1 cap) [x] := by
  refine ⟨some ⟨g, 0, none⟩, cap, rfl, h1, fun W' hW => ?_⟩
  have hb' : W'.heap[g]? = some (.cells cur 33 (0, 0)) := (hW g hg (blk_lt hb)).trans hb
  refine ⟨rfl, by simp, fun _ => ⟨⟨g, 0, none⟩, rfl, fun j p hj => ?_⟩⟩
  rcases j with _ | j
  · obtain rfl : x = p := by simpa using hj
    refine ⟨_, rfl, k33_mk W' x hl (hF W' hW), fun i u hu => ?_⟩
    rcases i with _ | _ | _ | i
    · obtain rfl := Option.some.inj hu
      exact (blk_cell hb' 0).trans q0
    · obtain rfl := Option.some.inj hu
      exact (blk_cell hb' 1).trans q1
    · obtain rfl := Option.some.inj hu
      exact (blk_cell hb' 2).trans q2
    · simp at hu
  · simp at hj
set_option maxHeartbeats 4000000 in
set_option maxRecDepth 100000 in
theorem sorted_one (A : Option Addr) (c : Nat) (x : S33) (w : World) (h : Kd.C k33 w A 1 [x]) (hx : x.f0.length ≤ 1000000) :
    Calls Tryd.prog 21 #[.slice A 1 c] w fun en w' => ∃ v, en = .returned v ∧ Kd.V k33 33 w' w.heap.size (fun k_ => (w.heap.size ≤ k_)) v [x] ∧ Below w.heap.size w w' := by
  have HCL := Aside0.mk (clone_one A c x w h)
  have HX := Aside0.mk hx
  clear h hx
  go_enter Tryd.func21, Tryd.ntmps21
  go_wp2_with (fail)
  refine HCL.out.mono ?_
  rintro en w1 ⟨g, cap, cur, A0, c0, rfl, hg, hb, h1, h5, q0, q1, q2, hl, hC, hB⟩
  have HB := Aside0.mk hB
  have HG := Aside0.mk hg
  have HBK := Aside0.mk hb
  have HC := Aside0.mk (Kd.C_below hC hB)
  have HCS := Aside0.mk (And.intro h5 h1)
  have HQ := Aside0.mk (And.intro q1 q2)
  have HL := Aside0.mk hl
  have c0' : w1.cell? ⟨g, 0, none⟩ = some (.slice A0 x.f0.length c0) := (blk_cell hb 0).trans q0
  have c1' : w1.cell? ⟨g, 1, none⟩ = some (.int .i64 x.f1) := (blk_cell hb 1).trans q1
  have c2' : w1.cell? ⟨g, 2, none⟩ = some (.int .i64 x.f2) := (blk_cell hb 2).trans q2
  have f0 : w1.frozen? ⟨g, 0, none⟩ = false := blk_frozen hb 0
  clear HCL hB hg hb hC h1 h5 q0 q1 q2 hl
  go_wp2_with (fail)
  refine (sortStable_one _ _ _ _).mono ?_
  rintro en w2 ⟨rfl, rfl⟩
  go_wp2_with (fail)
  go_loopg [4, 5, 12] 1 (fun kq v4 v5 v12 wr => (v12 = .int .i64 0 ∧ kq = 1 ∧ wr = w2) ∨ (v12 = .int .i64 1 ∧ Aside0 (Kd.V k33 33 wr w.heap.size (fun k_ => (w.heap.size ≤ k_)) (.slice (some ⟨g, 0, none⟩) 1 cap) [x]) ∧ Aside0 (Below w.heap.size w wr)))
  case atStart => exact .inl ⟨rfl, rfl, rfl⟩
  case round =>
    rcases hrel with ⟨rfl, rfl, rfl⟩ | ⟨rfl, HV, HB2⟩
    · have HCP := Aside0.mk (fun W hW => clone_pairs A0 c0 x.f0 W hW HX.out)
      go_wp2_with (fail)
      refine (HCP.out _ (Kd.C_alloc HC.out _)).mono ?_
      rintro en w3 ⟨v, rfl, hr, hb3⟩
      obtain ⟨A3, c3, rfl⟩ := Kd.R_slice hr
      have hB3 : Below wr.heap.size wr w3 := below_then (below_alloc (Below.refl _ _) _) (below_alloc (Below.refl _ wr) _).size hb3
      have HB4 := Aside0.mk (below_then HB.out HB.out.size hB3)
      have hbk := keepA HBK.out hB3
      have HF := Aside0.mk (Kd.R_F (Kd.R_mono (ok' := fun k => w.heap.size ≤ k ∧ k ≠ g) (Kd.R_bound hr) (fun k hk => by
        have h1 := hk.2.1
        have h2 := blk_lt HBK.out
        have h3 := HB.out.size
        have h4 := (below_alloc (Below.refl _ wr) (.cells #[Value.slice A0 x.f0.length c0, Value.int .i64 x.f1, Value.int .i64 x.f2] 33)).size
        omega)))
      have HLC := Aside0.mk (Kd.R_reads' hr).2.1
      have f0' : w3.frozen? ⟨g, 0, none⟩ = false := blk_frozen hbk 0
      have c0'' : ∃ u, w3.cell? ⟨g, 0, none⟩ = some u := ⟨_, (blk_cell hbk 0).trans (by rw [← blk_cell HBK.out 0]; exact c0')⟩
      obtain ⟨u0, c0''⟩ := c0''
      have HBK3 := Aside0.mk hbk
      clear hr hb3 hB3 hbk c0' HCP HC HB
      go_wp2_with (fail)
      go_roundg 0
      case measure => omega
      case rel =>
        refine .inr ⟨rfl, ⟨?_⟩, ⟨below_set HB4.out HG.out⟩⟩
        have hsz := HCS.out
        refine V_one HG.out (blk_set HBK3.out 0 _) (A3 := A3) (c3 := c3) ?_ ?_ ?_ hsz.2 HLC.out (Kd.F_mono (Kd.F_far HF.out (fun k hk => hk.2) _) (fun k hk => hk.1))
        · rw [Array.getElem?_setIfInBounds_self_of_lt (by omega)]
        · rw [Array.getElem?_setIfInBounds_ne (by omega)]; exact HQ.out.1
        · rw [Array.getElem?_setIfInBounds_ne (by omega)]; exact HQ.out.2
    · clear HBK HC HQ HB c0' c1' c2' f0
      go_wp2_with (fail)
      go_ret
      exact ⟨_, rfl, HV.out, HB2.out⟩
def GSortedG.f (l0 : List S33) : Option (List S33) := match l0 with
  | [x] => if x.f0.length ≤ 1000000 then some [x] else none
  | _ => none
theorem GSortedG.calls (A0 : Option Addr) (c0 : Nat) (l0 : List (S33)) (r : List (S33)) (w : World) (hr0 : Kd.C k33 w A0 l0.length l0) (hc0 : l0.length ≤ c0) (hT : TabS w) (h : GSortedG.f l0 = some r) :
    Calls Tryd.prog 21 #[.slice A0 l0.length c0] w fun e w' => ∃ v0_ : Value, e = .returned (v0_) ∧ Kd.V k33 33 w' w.heap.size (fun k_ => (w.heap.size ≤ k_)) v0_ r ∧ Below w.heap.size w w' := by
  unfold GSortedG.f at h
  split at h
  · rename_i x
    by_cases hx : x.f0.length ≤ 1000000
    · rw [if_pos hx] at h
      obtain rfl := Option.some.inj h
      exact sorted_one A0 c0 x w hr0 hx
    · rw [if_neg hx] at h; cases h
  · cases h
end Go.Proofs.YtpbemhjiffnamaaDoor.G
