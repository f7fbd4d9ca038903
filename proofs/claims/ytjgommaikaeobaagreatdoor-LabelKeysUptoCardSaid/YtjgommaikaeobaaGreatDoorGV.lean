/- The document's Read: its walk. -/
import Derived.Test.YtjgommaikaeobaaGreatDoorKG
import Derived.Test.YtjgommaikaeobaaGreatDoorGA
set_option linter.unusedVariables false
set_option linter.unusedSimpArgs false
namespace Go.Proofs.YtjgommaikaeobaaGreatDoor.G
open Go.RowKit Go.Shelf Go.Lib Go.Proofs.YtjgommaikaeobaaGreatDoorW.PrintWords Go.Proofs.YtjgommaikaeobaaGreatDoorW.PrintMore Go.Proofs.YtjgommaikaeobaaGreatDoor.P Go.Proofs.YtjgommaikaeobaaGreatDoor.L Go.Proofs.YtjgommaikaeobaaGreatDoor.RD
/-- The walk's world: the reader's cell holds what is left. -/
structure RC (bb g : Nat) (W : World) (bs : List Int) (e : Int) : Prop where
  mk :: (out : ∃ A c, W.heap[g]? = some (.cells #[.slice A bs.length c, .int .i64 e] 42 (0, 0)) ∧ Kd.C (Kd.int .u8) W A bs.length bs ∧ bs.length ≤ c ∧ (∀ ad, A = some ad → ad.block = bb))
theorem load42 {W : World} {g : Nat} {cs : Array Value} (hsz : cs.size = 2) (h : W.heap[g]? = some (.cells cs 42 (0, 0))) : (loadVar 42 ⟨g, 0, none⟩).run Tryz.prog W = .ok (.agg cs) W :=
  run_loadVar_row W g 42 42 cs (0, 0) _ h Tryz.underlying42 rfl (by rw [hsz]; kernel_rfl)
theorem C_grownW {w w' : World} {A : Option Addr} {xs : List Int} {bb : Nat} {row : Option Nat} (hC : Kd.C (Kd.int .u8) w A xs.length xs) (hg : w.grownBy w' row) (hbb : ∀ ad, A = some ad → ad.block = bb) (hne : some bb ≠ row) : Kd.C (Kd.int .u8) w' A xs.length xs := by
  refine ⟨hC.1, hC.2.1, fun hn => ?_⟩
  obtain ⟨ad, ha, hcs⟩ := hC.2.2 hn
  refine ⟨ad, ha, fun j p hj => ?_⟩
  obtain ⟨cs, h1, h2, h3⟩ := hcs j p hj
  refine ⟨cs, h1, h2, fun i u hu => ?_⟩
  have e1 : ∀ m : Nat, (ad.add m).block = ad.block := fun m => by unfold Addr.add; split <;> rfl
  exact hg.cell (h3 i u hu) (by rw [e1, hbb ad ha]; exact hne)
theorem RC.grown {bb g : Nat} {w w' : World} {bs : List Int} {e : Int} {row : Option Nat} (h : RC bb g w bs e) (hg : w.grownBy w' row) (h1 : some bb ≠ row) (h2 : some g ≠ row) : RC bb g w' bs e := by
  obtain ⟨A, c, hb, hC, hc, hbb⟩ := h.out
  exact ⟨A, c, blk_grown hb hg h2, C_grownW hC hg hbb h1, hc, hbb⟩
theorem RC.below {bb g : Nat} {w w' : World} {bs : List Int} {e : Int} (h : RC bb g w bs e) (hb : Below w.heap.size w w') : RC bb g w' bs e := by
  obtain ⟨A, c, hk, hC, hc, hbb⟩ := h.out
  exact ⟨A, c, (hb.block _ (blk_lt hk)).trans hk, Kd.C_below hC hb, hc, hbb⟩
theorem RC.put {bb g : Nat} {W : World} {v a b : Value} {bs : List Int} {e : Int} (h : RV bb W v bs e) (hg : bb ≠ g) (hk : W.heap[g]? = some (.cells #[a, b] 42 (0, 0))) :
    ∃ A c, v = .agg #[.slice A bs.length c, .int .i64 e] ∧ ((W.setCell ⟨g, 0, none⟩ (.slice A bs.length c)).setCell ⟨g, 1, none⟩ (.int .i64 e)).heap[g]? = some (.cells #[.slice A bs.length c, .int .i64 e] 42 (0, 0)) ∧ Kd.C (Kd.int .u8) ((W.setCell ⟨g, 0, none⟩ (.slice A bs.length c)).setCell ⟨g, 1, none⟩ (.int .i64 e)) A bs.length bs ∧ bs.length ≤ c ∧ ∀ ad, A = some ad → ad.block = bb := by
  obtain ⟨A, c, hv, hC, hc, hbb⟩ := h
  have hf : ∀ ad, A = some ad → ad.block ≠ g := fun ad ha => by rw [hbb ad ha]; exact hg
  exact ⟨A, c, hv, put2 hk, C_far (C_far hC hf _ _) hf _ _, hc, hbb⟩
theorem RC.rv {bb g : Nat} {W : World} {bs : List Int} {e : Int} (h : RC bb g W bs e) : ∃ v, RV bb W v bs e ∧ W.heap[g]? = some (.cells (match v with | .agg cs => cs | _ => #[]) 42 (0, 0)) := by
  obtain ⟨A, c, hk, hC, hc, hbb⟩ := h.out
  exact ⟨_, ⟨A, c, rfl, hC, hc, hbb⟩, hk⟩
theorem check_of_read {key : ByteArray} {x : List Int × Int × List S37} : True := trivial
theorem small_mass {l : List S37} (h8 : l.length ≤ 9) (h : ∀ x ∈ l, (x.f0.size : Int) ≤ 16 ∧ (x.f1.size : Int) ≤ 64) : mass l ≤ 1048576 := by
  have : ∀ l : List S37, (∀ x ∈ l, (x.f0.size : Int) ≤ 16 ∧ (x.f1.size : Int) ≤ 64) → mass l ≤ 82 * l.length := by
    intro l
    induction l with
    | nil => intro _; simp [mass]
    | cons x l ih =>
      intro hx
      have h3 := hx x (by simp)
      have h4 := ih (fun y hy => hx y (by simp [hy]))
      rw [mass_cons, List.length_cons]
      unfold muP
      omega
  have := this l h
  omega
theorem small_fit {l : List S37} (h : ∀ x ∈ l, (x.f0.size : Int) ≤ 16 ∧ (x.f1.size : Int) ≤ 64) : Fit l := fun x hx => by have := h x hx; omega
theorem R_set {α : Type} {d : Kd α} {t : Nat} {w : World} {base g j : Nat} {u v : Value} {xs : List α} {ok : Nat → Prop} (h : d.R t w base ok v xs) (hok : ∀ k, ok k → k ≠ g) : d.R t (w.setCell ⟨g, j, none⟩ u) base ok v xs := Kd.R_keep h ((KeepBut.refl w g none).set_ j u) hok
/-! ### Read -/
theorem info37W : (Tryz.prog.info? 37).map (fun i => (i.zero, i.size, i.bytes)) = some (some (.agg #[.string ⟨#[]⟩, .string ⟨#[]⟩]), k37.sz, 32) := by kernel_rfl
set_option maxHeartbeats 4000000 in
set_option maxRecDepth 100000 in
theorem wread_any (key : ByteArray) (w : World) (hn : key.size ≤ 140737488351232) :
    Calls Tryz.prog 5 #[.string key] w fun e w' => ∃ v : Value, e = .returned (.tuple #[v, .int .i64 (wreadB key).2]) ∧ Kd.R k37 37 w' w.heap.size (fun _ => True) v (wreadB key).1 ∧ Below w.heap.size w w' := by
  have kb := fun W => print_bytes (P := Tryz.prog) 9 34 5 Tryz.underlying9 Tryz.underlying34 Tryz.underlying5 key W
  have HKN := Aside0.mk hn
  have HBW := Aside0.mk (Lib.bytesWorld_below w 5 key)
  have hsz : (Lib.bytesWorld w 5 key).heap.size = w.heap.size + 1 := Lib.bytesWorld_size w 5 key
  have HSZ := Aside0.mk hsz
  have hlen := bytesOf_length key
  have hrv : RV w.heap.size (Lib.bytesWorld w 5 key) (.agg #[.slice (some ⟨w.heap.size, 0, none⟩) key.size (grownCap w key.size 0 5), .int .i64 0]) (bytesOf key) 0 :=
    ⟨some ⟨w.heap.size, 0, none⟩, grownCap w key.size 0 5, by rw [hlen], by rw [hlen]; exact Kd.C_of_reads (enc := Value.int .u8) (d := (0 : Int)) (h1 := fun _ => rfl) (bytes_reads w 5 key (by omega)), by rw [hlen]; exact grownCap_ge _ _ _ _, fun ad had => by cases had; rfl⟩
  have HBY := Aside0.mk (byte_any w.heap.size 108 _ (bytesOf key) 0 _ hrv)
  have HL := Aside0.mk hlen
  clear hn hsz hrv hlen
  go_enter Tryz.func5, Tryz.ntmps5
  go_wp2_with (fail)
  refine HBY.out.mono ?_
  rintro e w1 ⟨v1, rfl, hr1, hb1⟩
  obtain ⟨B0, hB0⟩ : ∃ B0, B0 = (skipF 108 (bytesOf key) 0).1 := ⟨_, rfl⟩
  obtain ⟨E0, hE0⟩ : ∃ E0, E0 = (skipF 108 (bytesOf key) 0).2 := ⟨_, rfl⟩
  have HRB := Aside0.mk (show wreadB key = wreadEnd key (readLoop 9 B0 E0 []) by rw [hB0, hE0]; rfl)
  have HBL := Aside0.mk (show B0.length ≤ 140737488351232 by rw [hB0]; have := skipF_len 108 (bytesOf key) 0; rw [HL.out] at this; have := HKN.out; omega)
  have HE0 := Aside0.mk (show E0 ≠ 0 → B0 = [] by rw [hE0, hB0]; exact skipF_inv (fun h => absurd rfl h))
  have HBB := Aside0.mk (show Byt B0 by rw [hB0]; exact fun y hy => bytesOf_range key y (skipF_sub 108 (bytesOf key) 0 y hy))
  rw [← hB0, ← hE0] at hr1
  obtain ⟨g, hg⟩ : ∃ g, g = w1.heap.size := ⟨_, rfl⟩
  have HGW := Aside0.mk (show w.heap.size + 1 ≤ g by rw [hg]; have := hb1.size; rw [HSZ.out] at this; exact this)
  have HB1 := Aside0.mk (below_then HBW.out HBW.out.size hb1)
  have HG := Aside0.mk hg
  obtain ⟨A1, c1, rfl, hrest⟩ : ∃ A1 c1, v1 = .agg #[.slice A1 B0.length c1, .int .i64 E0] ∧ Kd.C (Kd.int .u8) w1 A1 B0.length B0 ∧ B0.length ≤ c1 ∧ ∀ ad, A1 = some ad → ad.block = w.heap.size := by
    obtain ⟨A, c, h1, h2⟩ := hr1
    exact ⟨A, c, h1, h2⟩
  have HR1 := Aside0.mk hrest
  obtain ⟨nb, hnb⟩ : ∃ nb, nb = B0.length := ⟨_, rfl⟩
  have HNB := Aside0.mk hnb
  rw [← hnb]
  clear hr1 hb1 hg hB0 hE0 hrest hnb kb HBW HBY HSZ
  go_wp2_with (fail)
  obtain ⟨w2, hw2⟩ : ∃ w2, w2 = w1.alloc (.cells #[.slice A1 nb c1, .int .i64 E0] 42) := ⟨_, rfl⟩
  rw [← hw2]
  have HB2 := Aside0.mk (show Below w.heap.size w w2 by rw [hw2]; exact below_then HB1.out HB1.out.size (below_alloc (Below.refl _ w1) _))
  have HR2 := Aside0.mk (show RC w.heap.size g w2 B0 E0 by
    obtain ⟨hC, hc, hbb⟩ := HR1.out
    refine ⟨A1, c1, ?_, ?_, hc, hbb⟩
    · rw [hw2, HG.out, ← HNB.out]; exact heap_alloc_new w1 _
    · rw [hw2]; exact Kd.C_alloc hC _)
  rw [← HG.out]
  clear hw2 HR1 HB1 HG HNB
  go_loopg [5] 9 (fun kq v5 wr => ∃ (l : List S37) (bs : List Int) (en : Int), Aside0 (l.length + kq = 9) ∧ Aside0 (bs.length ≤ 140737488351232) ∧ Aside0 (wreadB key = wreadEnd key (readLoop kq bs en l)) ∧ Aside0 (en ≠ 0 → bs = []) ∧ Aside0 (Byt bs) ∧ Aside0 (∀ x ∈ l, (x.f0.size : Int) ≤ 16 ∧ (x.f1.size : Int) ≤ 64) ∧ Aside0 (RC w.heap.size g wr bs en) ∧ Aside0 (Below w.heap.size w wr) ∧ Aside0 (Kd.R k37 37 wr w.heap.size (fun k => k ≠ g ∧ k ≠ w.heap.size) v5 l))
  case atStart => exact ⟨[], B0, E0, ⟨rfl⟩, HBL, HRB, HE0, HBB, ⟨fun x hx => by cases hx⟩, HR2, HB2, ⟨Kd.R_nil _ _ _ _ _⟩⟩
  case round =>
    clear HBL HRB HR2 HB2 HE0 HBB
    obtain ⟨l, bs, en, HK, HBL, HRB, HE, HBY, HSM, HRC, HB, HO⟩ := hrel
    obtain ⟨A, c, hv, hc, hC⟩ := Kd.R_reads HO.out
    obtain ⟨nl, hnl⟩ : ∃ nl, nl = l.length := ⟨_, rfl⟩
    have HNL := Aside0.mk hnl
    rw [← hnl] at hv
    subst hv
    have HC := Aside0.mk hC
    have HCC := Aside0.mk hc
    obtain ⟨Ab, cb, hk, hCb, hcb, hbb⟩ := HRC.out
    have hmore := wmore_any w.heap.size _ bs en wr ⟨Ab, cb, rfl, hCb, hcb, hbb⟩
    rw [wmoreF_eq HE.out] at hmore
    obtain ⟨nb2, hnb2⟩ : ∃ nb2, nb2 = bs.length := ⟨_, rfl⟩
    rw [← hnb2] at hk hmore
    have q0 := (blk_cell hk 0).trans rfl
    have q1 := (blk_cell hk 1).trans rfl
    have HMR := Aside0.mk hmore
    clear hnl hc hC hk hCb hcb hbb hnb2 hmore
    go_wp2_with (fail)
    refine HMR.out.mono ?_
    rintro e w3 ⟨rfl, hb3⟩
    have HR3 := Aside0.mk (HRC.out.below hb3)
    have HB3 := Aside0.mk (below_then HB.out HB.out.size hb3)
    have HO3 := Aside0.mk (Kd.R_below HO.out hb3)
    clear q0 q1 HMR hb3 HO HC HB HRC
    cases hmo : moreF bs with
    | true =>
      have HMO := Aside0.mk hmo
      clear hmo
      cases gk with
      | zero =>
        have h9 : nl = 9 := by have h1 := HK.out; have h2 := HNL.out; omega
        subst h9
        have HRE := Aside0.mk (show wreadB key = wreadEnd key (bs, en, l) from HRB.out)
        obtain ⟨Ab, cb, hk, hCb, hcb, hbb⟩ := HR3.out
        have q0 := (blk_cell hk 0).trans rfl
        have q1 := (blk_cell hk 1).trans rfl
        have HC3 := Aside0.mk (show Kd.C k37 w3 A l.length l by
          obtain ⟨A2, c2, hv2, _, hC4⟩ := Kd.R_reads HO3.out
          obtain ⟨rfl, _⟩ : A = A2 ∧ _ := by simpa using hv2
          exact hC4)
        clear hk hCb hcb hbb
        by_cases he0 : en = 0
        · subst he0
          have hck := wcheck_any A c l w3 HC3.out HCC.out (small_fit HSM.out)
          rw [← HNL.out] at hck
          obtain ⟨ck, hckk⟩ : ∃ ck, ck = checkE l := ⟨_, rfl⟩
          rw [← hckk] at hck
          have HCK := Aside0.mk hck
          have HCE := Aside0.mk hckk
          clear hck hckk
          go_wp2_with (fail)
          refine HCK.out.mono ?_
          rintro e w7 ⟨rfl, hd7⟩
          have HB7 := Aside0.mk (below_then HB3.out HB3.out.size hd7)
          have HO7 := Aside0.mk (Kd.R_below HO3.out hd7)
          have HC7 := Aside0.mk (Kd.C_below HC3.out hd7)
          clear hd7
          by_cases hk0 : ck = 0
          · subst hk0
            have hky := wkey_any A c l w7 HC7.out HCC.out (small_mass (by have := HK.out; omega) HSM.out)
            rw [← HNL.out] at hky
            obtain ⟨ks, hkss⟩ : ∃ ks, ks = keyS l := ⟨_, rfl⟩
            rw [← hkss] at hky
            have HKY := Aside0.mk hky
            have HKS := Aside0.mk hkss
            clear hky hkss
            go_wp2_with (fail)
            refine HKY.out.mono ?_
            rintro e w8 ⟨rfl, hb8⟩
            have HB8 := Aside0.mk (below_then HB7.out HB7.out.size hb8)
            have HO8 := Aside0.mk (Kd.R_below HO7.out hb8)
            clear hb8
            by_cases hke : ks = key
            · subst hke
              go_wp2_with (fail)
              go_ret2
              rw [HRE.out]
              unfold wreadEnd
              rw [if_pos ⟨rfl, HCE.out.symm, HKS.out.symm⟩]
              exact ⟨_, rfl, Kd.R_mono HO8.out (fun _ _ => trivial), HB8.out⟩
            · have hke1 : (ks.toList == key.toList) = false := beq_eq_false_iff_ne.2 (fun h => hke (ba_inj h))
              have hke2 : (ks.toList != key.toList) = true := bne_iff_ne.2 (fun h => hke (ba_inj h))
              have hke3 : ¬ ks.toList = key.toList := fun h => hke (ba_inj h)
              have HKE := Aside0.mk hke
              clear hke
              go_wp2_with (fail)
              go_ret2
              rw [HRE.out]
              unfold wreadEnd
              rw [if_neg ?_]
              · exact ⟨_, rfl, Kd.R_nil _ _ _ _ _, HB8.out⟩
              · exact fun h => HKE.out (HKS.out.trans h.2.2)
          · have hk1 : (ck != 0) = true := bne_iff_ne.2 hk0
            have hk2 : (ck == 0) = false := beq_eq_false_iff_ne.2 hk0
            have HK0 := Aside0.mk hk0
            clear hk0
            go_wp2_with (fail)
            go_ret2
            rw [HRE.out]
            unfold wreadEnd
            rw [if_neg ?_]
            · exact ⟨_, rfl, Kd.R_nil _ _ _ _ _, HB7.out⟩
            · exact fun h => HK0.out (HCE.out.trans h.2.1)
        · have he1 : (en != 0) = true := bne_iff_ne.2 he0
          have HE0 := Aside0.mk he0
          clear he0
          go_wp2_with (fail)
          go_ret2
          rw [HRE.out]
          unfold wreadEnd
          rw [if_neg ?_]
          · exact ⟨_, rfl, Kd.R_nil _ _ _ _ _, HB3.out⟩
          · exact fun h => HE0.out h.1
      | succ k1 =>
        have hle : decide ((nl : Int) ≤ 8) = true := by have h1 := HK.out; have h2 := HNL.out; simp; omega
        have hle2 : decide (nl ≤ 8) = true := by have h1 := HK.out; have h2 := HNL.out; simp; omega
        obtain ⟨a, ha⟩ : ∃ a, a = textF bs en 16 := ⟨_, rfl⟩
        obtain ⟨b, hb⟩ : ∃ b, b = textF a.2.1 a.2.2 64 := ⟨_, rfl⟩
        have HLA := Aside0.mk (show a.2.1.length ≤ 140737488351232 by rw [ha]; have := textF_len bs en 16; have := HBL.out; omega)
        have HLB := Aside0.mk (show b.2.1.length ≤ 140737488351232 by rw [hb]; have := textF_len a.2.1 a.2.2 64; have := HLA.out; omega)
        have HYA := Aside0.mk (show Byt a.2.1 by rw [ha]; exact fun y hy => HBY.out y (textF_sub bs en 16 y hy))
        have HYB := Aside0.mk (show Byt b.2.1 by rw [hb]; exact fun y hy => HYA.out y (textF_sub a.2.1 a.2.2 64 y hy))
        have HEA := Aside0.mk (show a.2.2 ≠ 0 → a.2.1 = [] by rw [ha]; exact textF_inv HE.out)
        have HEB := Aside0.mk (show b.2.2 ≠ 0 → b.2.1 = [] by rw [hb]; exact textF_inv HEA.out)
        have HSA := Aside0.mk (show (a.1.size : Int) ≤ 16 by rw [ha]; exact textF_size bs en 16 (by omega))
        have HSB := Aside0.mk (show (b.1.size : Int) ≤ 64 by rw [hb]; exact textF_size a.2.1 a.2.2 64 (by omega))
        have HRB1 := Aside0.mk (show wreadB key = wreadEnd key (readLoop k1 b.2.1 b.2.2 (l ++ [⟨a.1, b.1⟩])) by rw [HRB.out, readLoop, if_pos HMO.out, ← ha, ← hb])
        have HT1 := Aside0.mk (fun v W hW => wtextr_any w.heap.size v bs en 16 W hW HBY.out HBL.out)
        have HT2 := Aside0.mk (fun v W hW => wtextr_any w.heap.size v a.2.1 a.2.2 64 W hW HYA.out HLA.out)
        rw [← ha] at HT1
        rw [← hb] at HT2
        obtain ⟨n1, abs, ae⟩ := a
        obtain ⟨s2, bbs, be⟩ := b
        obtain ⟨Ab, cb, hk, hCb, hcb, hbb⟩ := HR3.out
        have q0 := (blk_cell hk 0).trans rfl
        have q1 := (blk_cell hk 1).trans rfl
        have HT1' := Aside0.mk (HT1.out (.agg #[.slice Ab bs.length cb, .int .i64 en]) (w3.alloc (.cells #[.string ⟨#[]⟩, .string ⟨#[]⟩] 37)) ⟨Ab, cb, rfl, Kd.C_alloc hCb _, hcb, hbb⟩)
        have hgl := blk_lt hk
        have HK3 := Aside0.mk hk
        clear ha hb HRB hk hCb hcb hbb HE HBY HBL HYA HLA HT1 HEA
        go_wp2_with (fail)
        refine HT1'.out.mono ?_
        rintro e w4 ⟨v4, rfl, hr4, hb4⟩
        have hb34 := below_then (below_alloc (Below.refl _ w3) (.cells #[.string ⟨#[]⟩, .string ⟨#[]⟩] 37)) (by simp) hb4
        have hk4 : w4.heap[g]? = _ := (hb34.block _ (blk_lt HK3.out)).trans HK3.out
        have hp4 : w4.heap[w3.heap.size]? = some (.cells #[.string ⟨#[]⟩, .string ⟨#[]⟩] 37 (0, 0)) := (hb4.block _ (by simp)).trans (heap_alloc_new w3 _)
        have HO4 := Aside0.mk (Kd.R_below (Kd.R_mono (ok' := fun k => (k ≠ g ∧ k ≠ w.heap.size) ∧ k ≠ w3.heap.size) (Kd.R_bound HO3.out) (fun k hk => ⟨hk.1, fun e => by have := hk.2.2.1; omega⟩)) hb34)
        have HB4 := Aside0.mk (below_then HB3.out HB3.out.size hb34)
        obtain ⟨A4, c4, hv4, hkk4, hC4, hc4, hbb4⟩ := RC.put hr4 (by have := HGW.out; omega) hk4
        obtain rfl : v4 = _ := hv4
        obtain ⟨pp, hpp⟩ : ∃ pp, pp = w3.heap.size := ⟨_, rfl⟩
        have HPP := Aside0.mk hpp
        rw [← hpp] at hp4 HO4
        have hgp : g ≠ pp := by rw [hpp]; omega
        have hgp2 : pp ≠ g := fun h => hgp h.symm
        have hpw : w.heap.size < pp := by rw [hpp]; have := HGW.out; omega
        rw [← hpp]
        obtain ⟨na, hna⟩ : ∃ na, na = abs.length := ⟨_, rfl⟩
        have HNA := Aside0.mk hna
        rw [← hna] at hkk4 ⊢
        have hf4 : ∀ ad, A4 = some ad → ad.block ≠ pp := fun ad ha => by rw [hbb4 ad ha]; omega
        have HKK5 := Aside0.mk (blk_far hkk4 (p := ⟨pp, 0, none⟩) hgp (.string n1))
        have HT2' := Aside0.mk (HT2.out (.agg #[.slice A4 na c4, .int .i64 ae]) (((w4.setCell ⟨g, 0, none⟩ (.slice A4 na c4)).setCell ⟨g, 1, none⟩ (.int .i64 ae)).setCell ⟨pp, 0, none⟩ (.string n1)) ⟨A4, c4, by rw [hna], by rw [hna]; exact C_far hC4 hf4 0 (.string n1), hc4, hbb4⟩)
        have HP4 := Aside0.mk hp4
        have HK4 := Aside0.mk hk4
        have f0 := blk_frozen hk4 0
        have f1 := blk_frozen hk4 1
        have g0 := blk_frozen hp4 0
        have g1 := blk_frozen hp4 1
        have x0 := (blk_cell hk4 0).trans rfl
        have x1 := (blk_cell hk4 1).trans rfl
        have y0 := (blk_cell hp4 0).trans rfl
        have y1 := (blk_cell hp4 1).trans rfl
        have hp5 := blk_put (blk_far (blk_far hp4 (p := ⟨g, 0, none⟩) hgp2 (.slice A4 na c4)) (p := ⟨g, 1, none⟩) hgp2 (.int .i64 ae)) 0 (.string n1) (cs' := #[.string n1, .string ⟨#[]⟩]) rfl
        have HP5 := Aside0.mk hp5
        have HB5 := Aside0.mk (below_set (below_set (below_set HB4.out (g := g) (j := 0) (v := .slice A4 na c4) (by have := HGW.out; omega)) (g := g) (j := 1) (v := .int .i64 ae) (by have := HGW.out; omega)) (g := pp) (j := 0) (v := .string n1) (by omega))
        have HO5 := Aside0.mk (Kd.R_far (Kd.R_far (Kd.R_far HO4.out (p := ⟨g, 0, none⟩) (fun k hk => hk.1.1) (.slice A4 na c4)) (p := ⟨g, 1, none⟩) (fun k hk => hk.1.1) (.int .i64 ae)) (p := ⟨pp, 0, none⟩) (fun k hk => hk.2) (.string n1))
        clear hr4 hb4 hb34 hk4 hp4 hp5 hkk4 hC4 hc4 hbb4 hf4 HT2 HT1' HO3 HB3 HR3 HK3 q0 q1 hpp hna hgl
        go_wp2_with (fail)
        refine HT2'.out.mono ?_
        rintro e w6 ⟨v6, rfl, hr6, hb6⟩
        have hk6 := (hb6.block _ (blk_lt HKK5.out)).trans HKK5.out
        have hp6 := (hb6.block _ (blk_lt HP5.out)).trans HP5.out
        have HO6 := Aside0.mk (Kd.R_below HO5.out hb6)
        have HB6 := Aside0.mk (below_then HB5.out HB5.out.size hb6)
        obtain ⟨A6, c6, hv6, hkk6, hC6, hc6, hbb6⟩ := RC.put hr6 (by have := HGW.out; omega) hk6
        obtain rfl : v6 = _ := hv6
        obtain ⟨n6, hn6⟩ : ∃ n6, n6 = bbs.length := ⟨_, rfl⟩
        have HN6 := Aside0.mk hn6
        rw [← hn6] at hkk6 ⊢
        have hf6 : ∀ ad, A6 = some ad → ad.block ≠ pp := fun ad ha => by rw [hbb6 ad ha]; omega
        have hkk7 := blk_far hkk6 (p := ⟨pp, 1, none⟩) hgp (.string s2)
        have HR7 := Aside0.mk (show RC w.heap.size g (((w6.setCell ⟨g, 0, none⟩ (.slice A6 n6 c6)).setCell ⟨g, 1, none⟩ (.int .i64 be)).setCell ⟨pp, 1, none⟩ (.string s2)) bbs be from ⟨A6, c6, by rw [← hn6]; exact hkk7, by rw [hn6]; exact C_far hC6 hf6 1 (.string s2), hc6, hbb6⟩)
        have HB7 := Aside0.mk (below_set (below_set (below_set HB6.out (g := g) (j := 0) (v := .slice A6 n6 c6) (by have := HGW.out; omega)) (g := g) (j := 1) (v := .int .i64 be) (by have := HGW.out; omega)) (g := pp) (j := 1) (v := .string s2) (by omega))
        have HO7 := Aside0.mk (Kd.R_far (Kd.R_far (Kd.R_far HO6.out (p := ⟨g, 0, none⟩) (fun k hk => hk.1.1) (.slice A6 n6 c6)) (p := ⟨g, 1, none⟩) (fun k hk => hk.1.1) (.int .i64 be)) (p := ⟨pp, 1, none⟩) (fun k hk => hk.2) (.string s2))
        have hsz7 : pp < w6.heap.size := blk_lt hp6
        have hgz7 : g < w6.heap.size := blk_lt hk6
        have HNE := Aside0.mk (show ∀ k, (((w6.setCell ⟨g, 0, none⟩ (.slice A6 n6 c6)).setCell ⟨g, 1, none⟩ (.int .i64 be)).setCell ⟨pp, 1, none⟩ (.string s2)).heap.size ≤ k → (k ≠ g ∧ k ≠ w.heap.size) ∧ k ≠ pp from fun k hk => by
          have hz : ∀ (W : World) (p : Addr) (u : Value), (W.setCell p u).heap.size = W.heap.size := fun W p u => by simp
          rw [hz, hz, hz] at hk
          exact ⟨⟨by omega, by omega⟩, by omega⟩)
        have HZ7 := Aside0.mk (show (((w6.setCell ⟨g, 0, none⟩ (.slice A6 n6 c6)).setCell ⟨g, 1, none⟩ (.int .i64 be)).setCell ⟨pp, 1, none⟩ (.string s2)).heap.size = w6.heap.size by simp)
        have f0 := blk_frozen hk6 0
        have f1 := blk_frozen hk6 1
        have g0 := blk_frozen hp6 0
        have g1 := blk_frozen hp6 1
        have x0 := (blk_cell hk6 0).trans rfl
        have x1 := (blk_cell hk6 1).trans rfl
        have y0 := (blk_cell hp6 0).trans rfl
        have y1 := (blk_cell hp6 1).trans rfl
        clear hr6 hb6 hk6 hp6 hkk6 hkk7 hC6 hc6 hbb6 hf6 HT2' HO4 HO5 HO6 HB4 HB5 HB6 HKK5 HP5 HP4 HK4 hn6 hsz7 hgz7
        go_wp2_with ((with_reducible refine gate_builtin (b := .append) (xs := #[.tmp 30, .tmp 32]) rfl ?_); at_builtin; refine Kd.R_append k37 (w0 := w) w.heap.size rfl (.tmp 30) (.tmp 32) 22 37 (.agg #[.string ⟨#[]⟩, .string ⟨#[]⟩]) 32 rfl Tryz.underlying22 info37W rfl (by decide) (by omega) (.slice A nl c) l ⟨n1, s2⟩ [.string n1, .string s2] (fun k => (k ≠ g ∧ k ≠ w.heap.size) ∧ k ≠ pp) (fun _ => False) rfl (by rw [HZ7.out]; rfl) (k37_mkM _ _ _ ⟨n1, s2⟩) (fun _ hk => hk.elim) HNE.out HO7.out HB7.out HB7.out.size (by have h1 := HK.out; omega) ?_; intro v8 w8 ho8 hb8 hg8 hat8)
        have HB8 := Aside0.mk hb8
        have HO8 := Aside0.mk (Kd.R_mono (ok' := fun k => k ≠ g ∧ k ≠ w.heap.size) ho8 (fun k hk => hk.1))
        have HR8 := Aside0.mk (HR7.out.grown hg8 (fun e => (HO7.out.1 _ e.symm).1.2 rfl) (fun e => (HO7.out.1 _ e.symm).1.1 rfl))
        clear ho8 hb8 hg8 hat8 HO7 HB7 HR7 HNE
        go_wp2_with (fail)
        go_roundg k1
        case measure => omega
        case rel => exact ⟨l ++ [⟨n1, s2⟩], bbs, be, ⟨by have h1 := HK.out; simp only [List.length_append, List.length_singleton]; omega⟩, HLB, HRB1, HEB, HYB, ⟨fun x hx => by
          rcases List.mem_append.1 hx with hx | hx
          · exact HSM.out x hx
          · rw [List.mem_singleton.1 hx]; exact ⟨HSA.out, HSB.out⟩⟩, HR8, HB8, HO8⟩
    | false =>
      have HRE := Aside0.mk (show wreadB key = wreadEnd key (bs, en, l) by
        rw [HRB.out]
        cases gk with
        | zero => rfl
        | succ k => rw [readLoop, if_neg (by rw [hmo]; simp)])
      clear hmo
      obtain ⟨Ab, cb, hk, hCb, hcb, hbb⟩ := HR3.out
      have q0 := (blk_cell hk 0).trans rfl
      have q1 := (blk_cell hk 1).trans rfl
      have HC3 := Aside0.mk (show Kd.C k37 w3 A l.length l by
        obtain ⟨A2, c2, hv2, _, hC4⟩ := Kd.R_reads HO3.out
        obtain ⟨rfl, _⟩ : A = A2 ∧ _ := by simpa using hv2
        exact hC4)
      clear hk hCb hcb hbb
      by_cases he0 : en = 0
      · subst he0
        have hck := wcheck_any A c l w3 HC3.out HCC.out (small_fit HSM.out)
        rw [← HNL.out] at hck
        obtain ⟨ck, hckk⟩ : ∃ ck, ck = checkE l := ⟨_, rfl⟩
        rw [← hckk] at hck
        have HCK := Aside0.mk hck
        have HCE := Aside0.mk hckk
        clear hck hckk
        go_wp2_with (fail)
        refine HCK.out.mono ?_
        rintro e w7 ⟨rfl, hd7⟩
        have HB7 := Aside0.mk (below_then HB3.out HB3.out.size hd7)
        have HO7 := Aside0.mk (Kd.R_below HO3.out hd7)
        have HC7 := Aside0.mk (Kd.C_below HC3.out hd7)
        clear hd7
        by_cases hk0 : ck = 0
        · subst hk0
          have hky := wkey_any A c l w7 HC7.out HCC.out (small_mass (by have := HK.out; omega) HSM.out)
          rw [← HNL.out] at hky
          obtain ⟨ks, hkss⟩ : ∃ ks, ks = keyS l := ⟨_, rfl⟩
          rw [← hkss] at hky
          have HKY := Aside0.mk hky
          have HKS := Aside0.mk hkss
          clear hky hkss
          go_wp2_with (fail)
          refine HKY.out.mono ?_
          rintro e w8 ⟨rfl, hb8⟩
          have HB8 := Aside0.mk (below_then HB7.out HB7.out.size hb8)
          have HO8 := Aside0.mk (Kd.R_below HO7.out hb8)
          clear hb8
          by_cases hke : ks = key
          · subst hke
            go_wp2_with (fail)
            go_ret2
            rw [HRE.out]
            unfold wreadEnd
            rw [if_pos ⟨rfl, HCE.out.symm, HKS.out.symm⟩]
            exact ⟨_, rfl, Kd.R_mono HO8.out (fun _ _ => trivial), HB8.out⟩
          · have hke1 : (ks.toList == key.toList) = false := beq_eq_false_iff_ne.2 (fun h => hke (ba_inj h))
            have hke2 : (ks.toList != key.toList) = true := bne_iff_ne.2 (fun h => hke (ba_inj h))
            have hke3 : ¬ ks.toList = key.toList := fun h => hke (ba_inj h)
            have HKE := Aside0.mk hke
            clear hke
            go_wp2_with (fail)
            go_ret2
            rw [HRE.out]
            unfold wreadEnd
            rw [if_neg ?_]
            · exact ⟨_, rfl, Kd.R_nil _ _ _ _ _, HB8.out⟩
            · exact fun h => HKE.out (HKS.out.trans h.2.2)
        · have hk1 : (ck != 0) = true := bne_iff_ne.2 hk0
          have hk2 : (ck == 0) = false := beq_eq_false_iff_ne.2 hk0
          have HK0 := Aside0.mk hk0
          clear hk0
          go_wp2_with (fail)
          go_ret2
          rw [HRE.out]
          unfold wreadEnd
          rw [if_neg ?_]
          · exact ⟨_, rfl, Kd.R_nil _ _ _ _ _, HB7.out⟩
          · exact fun h => HK0.out (HCE.out.trans h.2.1)
      · have he1 : (en != 0) = true := bne_iff_ne.2 he0
        have HE0 := Aside0.mk he0
        clear he0
        go_wp2_with (fail)
        go_ret2
        rw [HRE.out]
        unfold wreadEnd
        rw [if_neg ?_]
        · exact ⟨_, rfl, Kd.R_nil _ _ _ _ _, HB3.out⟩
        · exact fun h => HE0.out h.1
def WRead.f (a0 : ByteArray) : Option ((List (S37)) × Int) := if a0.size ≤ 140737488351232 then some (readB (bytesOf a0)) else none
theorem WRead.calls (a0 : ByteArray) (r1 : List (S37)) (r2 : Int) (w : World) (h : WRead.f a0 = some (r1, r2)) :
    Calls Tryz.prog 5 #[.string a0] w fun e w' => ∃ v0_ : Value, e = .returned (.tuple #[v0_, .int .i64 r2]) ∧ Kd.R k37 37 w' w.heap.size (fun _ => True) v0_ r1 ∧ Below w.heap.size w w' := by
  unfold WRead.f at h
  by_cases hs : a0.size ≤ 140737488351232
  · rw [if_pos hs] at h
    have h' := Option.some.inj h
    have := wread_any a0 w hs
    rw [wread_eq, h'] at this
    exact this
  · rw [if_neg hs] at h; cases h
end Go.Proofs.YtjgommaikaeobaaGreatDoor.G
