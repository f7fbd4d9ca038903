/- LabelPicks in memory: any value, and the pairs of any names, are told as the document says. -/
import Derived.Test.YtjgommaikaeobaaDoorLQ
import Derived.Test.YtjgommaikaeobaaDoorLI
set_option linter.unusedVariables false
set_option linter.unusedSimpArgs false
namespace Go.Proofs.YtjgommaikaeobaaDoor.L
open Go.RowKit Go.Shelf Go.Lib Go.Proofs.YtjgommaikaeobaaDoorW.PrintWords Go.Proofs.YtjgommaikaeobaaDoor.PLabelSorts Go.Proofs.YtjgommaikaeobaaDoor.R

theorem same_eq (A : Option Addr) (c : Nat) (B : Option Addr) (d : Nat) (l : List S35) (w : World) (ha : Kd.C k35 w A l.length l) (hc : l.length ≤ c) (hb : Kd.C k35 w B l.length l) (hd : l.length ≤ d) :
    Calls Tryd.prog 17 #[.slice A l.length c, .slice B l.length d] w fun e w' => e = .returned (.bool true) ∧ Below w.heap.size w w' := by
  obtain ⟨r, h1, h2⟩ := wsame_f l l ha.2.1
  obtain rfl := h2.2 rfl
  exact (WSame.calls _ A c l B d l _ w ha hc hb hd h1).mono fun _ _ ⟨he, hw⟩ => ⟨he, hw.below⟩
/-- A row of pairs that the call writes into: its block. -/
def Blk (w : World) (g n : Nat) : Prop := ∃ cur cap, w.heap[g]? = some (.cells cur 35 (0, 0)) ∧ cur.size = cap * 2 ∧ n ≤ cap
theorem blk_of_R {w : World} {base : Nat} {v : Value} {l : List S35} (h : Kd.R k35 35 w base (fun _ => True) v l) (hn : 0 < l.length) : ∃ g cap, v = .slice (some ⟨g, 0, none⟩) l.length cap ∧ base ≤ g ∧ Blk w g l.length := by
  obtain ⟨inner, ho⟩ := Kd.R_own h
  obtain ⟨_, h2⟩ := ho
  rcases h2 with ⟨_, h0⟩ | ⟨g, cap, cur, rfl, hg, hb, h1, h2, h3, h4⟩
  · omega
  · exact ⟨g, cap, rfl, hg, cur, cap, hb, h3, h1⟩
theorem Blk.set {w : World} {g n j : Nat} (h : Blk w g n) (u : Value) : Blk (w.setCell ⟨g, j, none⟩ u) g n := by
  obtain ⟨cur, cap, hb, h1, h2⟩ := h
  exact ⟨_, cap, blk_set hb j u, by simpa using h1, h2⟩
theorem Blk.cell {w : World} {g n j : Nat} (h : Blk w g n) (hj : j < n * 2) : (∃ u, w.cell? ⟨g, j, none⟩ = some u) ∧ w.frozen? ⟨g, j, none⟩ = false := by
  obtain ⟨cur, cap, hb, h1, h2⟩ := h
  have hlt : j < cur.size := by omega
  exact ⟨⟨cur[j], (blk_cell hb j).trans (by simp [hlt])⟩, blk_frozen hb j⟩

/-- How long a slice's datum is. -/
theorem trod_len {H : Type} {enc : TypeId × Value → H} {P : Program} {w : World} {base : Nat} {spare : Nat → Bool} {held : Bool} {t e : TypeId} {A : Option Addr} {n c : Nat} {d : DataW H} {ps : List MemPlace} (ht : P.underlying t = some (.slice e)) (h : DataW.Trod enc P w base spare held t (.slice A n c) d ps) :
    n = 0 ∨ ∃ elems rest, d = .slice elems rest ∧ elems.length = n := by
  obtain ⟨fuel, hf⟩ := h
  rcases Deep.open_slice ht hf with ⟨hcs, _⟩ | ⟨a, len, cap, m, k, D, Pl, hcs, _, _, _, _, hx, _⟩
  · simp [Value.cells] at hcs
    exact .inl hcs.2.1
  · simp [Value.cells] at hcs
    obtain ⟨rfl, rfl, rfl⟩ := hcs
    injection hx with h1 h2
    exact .inr ⟨_, _, h1, by simp⟩

set_option maxRecDepth 100000 in
set_option maxHeartbeats 4000000 in
theorem picks_any (A : Option Addr) (c : Nat) (l : List S35) (s : ByteArray) (B : Option Addr) (q : Nat) (names : List ByteArray) (w : World) (h : Kd.C k35 w A l.length l) (hc : l.length ≤ c) (hl : l.length < 4398046511104)
    (hn : Kd.C Kd.string w B names.length names) (hq : names.length ≤ q) :
    Calls Tryd.prog 6 #[.slice A l.length c, .string s, .slice B names.length q] w fun e w' => e = .returned (.bool true) ∧ Below w.heap.size w w' := by
  have H := Aside0.mk h
  have HN := Aside0.mk hn
  have hn2 := hn.2.1
  have hll : l.length ≤ 9223372036854775807 := by omega
  clear h hn
  go_enter Tryd.func6, Tryd.ntmps6
  go_wp2_with (fail)
  refine (LPick.calls _ A c l B q names _ w H.out hc HN.out hq (lpick_f l names hl hn2)).mono ?_
  rintro e w1 ⟨v, rfl, hr, hb⟩
  obtain ⟨A1, c1, hv1, hc1, hC1⟩ := Kd.R_reads hr
  have HR1 := Aside0.mk hr
  have HC1 := Aside0.mk hC1
  have HB1 := Aside0.mk hb
  clear hr hb hC1
  obtain ⟨n1, hn1⟩ : ∃ n1, n1 = (pickL l names).length := ⟨_, rfl⟩
  rw [← hn1] at hv1 hc1
  subst hv1
  have HN1 := Aside0.mk hn1
  clear hn1
  go_wp2_with (fail)
  refine (WPick.calls _ A c l B q names _ w1 (Kd.C_below H.out HB1.out) hc (Kd.C_below HN.out HB1.out) hq (wpick_f l names hl hn2)).mono ?_
  rintro e w2 ⟨v, rfl, hr, hb⟩
  obtain ⟨A2, c2, hv2, hc2, hC2⟩ := Kd.R_reads hr
  have HC2 := Aside0.mk hC2
  have HB2 := Aside0.mk (below_then HB1.out HB1.out.size hb)
  have HC12 := Aside0.mk (Kd.C_below HC1.out hb)
  have HR12 := Aside0.mk (Kd.R_below HR1.out hb)
  clear hr hb hC2
  rw [← HN1.out] at hv2 hc2
  subst hv2
  have hsm := same_eq A1 c1 A2 c2 (pickL l names) w2 HC12.out (by rw [← HN1.out]; exact hc1) HC2.out (by rw [← HN1.out]; exact hc2)
  rw [← HN1.out] at hsm
  have HSM := Aside0.mk hsm
  clear hsm
  go_wp2_with (fail)
  refine HSM.out.mono ?_
  rintro e w3 ⟨rfl, hb⟩
  have HB3 := Aside0.mk (below_then HB2.out HB2.out.size hb)
  have HR13 := Aside0.mk (Kd.R_below HR12.out hb)
  clear hb HSM HC1 HC2 HC12 HR1 HR12
  go_wp2_with (fail)
  refine (LGet.calls _ A c l s _ w3 (Kd.C_below H.out HB3.out) hc (lget_f l s hll)).mono ?_
  rintro e w4 ⟨rfl, hb⟩
  have HB4 := Aside0.mk (below_then HB3.out HB3.out.size hb)
  have HR14 := Aside0.mk (Kd.R_below HR13.out hb)
  clear hb HR13
  obtain ⟨gs, hgs⟩ : ∃ gs, gs = getL l s := ⟨_, rfl⟩
  have hwg := WGet.calls _ A c l s _ w4 (Kd.C_below H.out HB4.out) hc (wget_f l s hll)
  rw [← hgs] at hwg ⊢
  have HWG := Aside0.mk hwg
  clear hwg hgs
  go_wp2_with (fail)
  refine HWG.out.mono ?_
  rintro e w5 ⟨rfl, hb⟩
  have HB5 := Aside0.mk (below_then HB4.out HB4.out.size hb.below)
  have HR15 := Aside0.mk (Kd.R_below HR14.out hb.below)
  clear hb HWG HR14
  go_wp2_with (first
    | ((with_reducible refine gate_dst (N := 28) rfl ?_); refine Kd.R_lit k35 (w0 := w) w.heap.size 35 ?hg (N := 28) ?hd (xs := ([] : List S35)) (inner := []) (ok := fun k => w5.heap.size ≤ k) (okp := fun _ => False) ?hr (Reps.none _ _) (fun _ hk => hk.elim) (Nat.le_refl _) HB5.out HB5.out.size (by simp) ?_; (case hd => rfl); (case hg => rfl); (case hr => first | (go_simp; done) | (go_simp; rfl)); intro v6 w6 ho6 hb6 hg6 hnew6; have HR6 := Aside0.mk ho6; have HB6 := Aside0.mk hb6; have HG6 := Aside0.mk hg6; clear ho6 hb6 hg6 hnew6)
    | ((with_reducible refine gate_builtin (b := .append) (xs := #[.tmp 28, .tmp 29]) rfl ?_); at_builtin; refine Kd.R_append_rows k35 (w0 := w) w.heap.size rfl (.tmp 28) (.tmp 29) 22 35 (.agg #[.string ⟨#[]⟩, .string ⟨#[]⟩]) 32 rfl Tryd.underlying22 info35 rfl (by decide) (by omega) v6 [] l A l.length c (fun k => w5.heap.size ≤ k) (fun _ => False) rfl rfl HR6.out (Kd.C_below H.out HB6.out) (fun _ _ h => h) (fun _ h => h.elim) (fun k hk => Nat.le_trans HG6.out.size hk) HB6.out HB6.out.size (by simp; omega) ?_; intro v7 w7 ho7 hb7 hg7 hat7; have HR7 := Aside0.mk ho7; have HB7 := Aside0.mk hb7; have HG7 := Aside0.mk hg7; clear ho7 hb7 hg7 hat7))
  obtain ⟨A7, c7, hv7, hc7, hC7⟩ := Kd.R_reads HR7.out
  rw [List.nil_append] at hv7 hc7
  subst hv7
  have hkeep : ∀ k, k < w5.heap.size → w7.heap[k]? = w5.heap[k]? := fun k hk => by
    have hk6 : k < w6.heap.size := Nat.lt_of_lt_of_le hk HG6.out.size
    refine (HG7.out.block k hk6 (fun e => ?_)).trans (HG6.out.block k hk (by simp))
    have := HR6.out.1 k e.symm
    omega
  have HA := Aside0.mk (show 0 < n1 → ∃ g cap, A1 = some ⟨g, 0, none⟩ ∧ c1 = cap ∧ w.heap.size ≤ g ∧ g < w5.heap.size ∧ Blk w7 g n1 from fun hp => by
    obtain ⟨g, cap, he, hg, cur, cap2, hb, h1, h2⟩ := blk_of_R HR15.out (by rw [← HN1.out]; exact hp)
    rw [← HN1.out] at he h2
    have e1 : A1 = some ⟨g, 0, none⟩ ∧ c1 = cap := by simpa using he
    have hlt := blk_lt hb
    exact ⟨g, cap, e1.1, e1.2, hg, hlt, cur, cap2, (hkeep g hlt).trans hb, h1, h2⟩)
  have HIN := Aside0.mk (show Kd.R k35 35 w7 w.heap.size (fun k => w5.heap.size ≤ k) (.slice A7 l.length c7) l from HR7.out)
  clear hkeep HR6 HB6 HG6 HR7 HG7 HR15 hC7
  have hn1m : n1 ≤ 9223372036854775807 := by
    have := List.length_filter_le (fun x : S35 => inB names x.f0) l
    have h2 := HN1.out
    unfold pickL at h2
    omega
  go_loopg [10] (n1 + 1) (fun kq v10 wr => ∃ x : Int, v10 = .int .i64 x ∧ Aside0 (0 ≤ x ∧ x ≤ n1 ∧ x + kq = n1 + 1) ∧ Aside0 (Below w.heap.size w wr) ∧
    Aside0 (0 < n1 → ∃ g cap, A1 = some ⟨g, 0, none⟩ ∧ c1 = cap ∧ w.heap.size ≤ g ∧ g < w5.heap.size ∧ Blk wr g n1) ∧ Aside0 (Kd.R k35 35 wr w.heap.size (fun k => w5.heap.size ≤ k) (.slice A7 l.length c7) l))
  case atStart => exact ⟨0, rfl, ⟨by omega⟩, HB7, HA, HIN⟩
  case round =>
    clear HB7 HA HIN
    obtain ⟨x, rfl, HI, HB, HA, HIN⟩ := hrel
    cases gk with
    | zero => exact absurd HI.out (by omega)
    | succ k1 =>
      obtain ⟨hx0, hxn, hxk⟩ := HI.out
      by_cases hlt : x < (n1 : Int)
      · obtain ⟨g, cap, rfl, rfl, hg, hg5, hblk⟩ := HA.out (by omega)
        obtain ⟨⟨u, hu⟩, hfz⟩ := hblk.cell (j := x.toNat * 2 + 1) (by omega)
        have HBK := Aside0.mk (hblk.set (j := x.toNat * 2 + 1) (.string ⟨#[63]⟩))
        have HB2 := Aside0.mk (HB.out.setCell (p := ⟨g, x.toNat * 2 + 1, none⟩) hg (.string ⟨#[63]⟩))
        have HI2 := Aside0.mk (Kd.R_far (p := ⟨g, x.toNat * 2 + 1, none⟩) HIN.out (fun k hk => by show k ≠ g; omega) (.string ⟨#[63]⟩))
        have hadd : (⟨g, 0, none⟩ : Addr).add (x.toNat * 2) = ⟨g, x.toNat * 2, none⟩ := by rw [add_at, Nat.zero_add]
        have HG := Aside0.mk (And.intro hg hg5)
        clear hblk HA HB HIN hg hg5
        go_wp2_with (fail)
        go_roundg k1
        case measure => omega
        case rel => exact ⟨x + 1, rfl, ⟨by omega⟩, HB2, ⟨fun _ => ⟨g, _, rfl, rfl, HG.out.1, HG.out.2, HBK.out⟩⟩, HI2⟩
      · have hcb : decide (x < (n1 : Int)) = false := decide_eq_false hlt
        clear HI hx0 hxn hxk hlt HA
        obtain ⟨A8, c8, he8, hc8, hC8⟩ := Kd.R_reads HIN.out
        obtain ⟨rfl, rfl⟩ : A7 = A8 ∧ c7 = c8 := by simpa using he8
        have HS := Aside0.mk (same_eq A7 c7 A c l wr hC8 hc8 (Kd.C_below H.out HB.out) hc)
        clear he8 hC8
        go_wp2_with (fail)
        refine HS.out.mono ?_
        rintro e w8 ⟨rfl, hb⟩
        have HB8 := Aside0.mk (below_then HB.out HB.out.size hb)
        clear hb HS
        go_wp2_with (fail)
        refine (awake_any w8).mono ?_
        rintro e w9 ⟨rfl, hb⟩
        have HB9 := Aside0.mk (below_then HB8.out HB8.out.size hb)
        clear hb
        go_wp2_with (fail)
        go_ret
        exact ⟨rfl, HB9.out⟩
end Go.Proofs.YtjgommaikaeobaaDoor.L
