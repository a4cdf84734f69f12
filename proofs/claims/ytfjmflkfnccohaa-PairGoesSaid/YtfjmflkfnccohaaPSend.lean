/- A pair comes, with bits turned in one of its frames: what the checker tells (send of layer 27). -/
import Derived.Test.YtfjmflkfnccohaaPGoL
import Derived.Test.YtfjmflkfnccohaaPair3
set_option linter.unusedSimpArgs false
set_option linter.unusedVariables false
set_option linter.unnecessarySimpa false
namespace Go.Proofs.Ytfjmflkfnccohaa
open Go.RowKit Go.Proofs.YtfjmflkfnccohaaW.PrintWords
attribute [local go_sem] max2_max min2_min max_of_two min_of_two bxF_fr stF_fr stF_fr2 stF_put ldF_put ldV_put ldF_new guard_eq guard_ne bin_eq bin_ne alF_fr bdF_none bdF_ask bdF_len bdF_dat ext_drew' ext_alloc
attribute [local go_sem ↓] ldF_in ldV_in bxF_in stF_in cvS_in alF_in bdF_in ixS_in
attribute [local go_sem] gUpon

theorem mk_small {p : Int} {l : List Int} (h0 : 0 ≤ p) (h1 : p ≤ 2047) (hl : l.length ≤ 8) (hb : Byt l) : (mkFr p l).chk = 0 ∧ (mkFr p l).bytes = l ∧ Byt (mkFr p l).data := by
  have hp : ¬ (p < 0 ∨ 2047 < p) := by omega
  have key : (mkFr p l).chk = 0 ∧ (mkFr p l).data.take (mkFr p l).len.toNat = l := by
    rcases l with _ | ⟨a0, _ | ⟨a1, _ | ⟨a2, _ | ⟨a3, _ | ⟨a4, _ | ⟨a5, _ | ⟨a6, _ | ⟨a7, _ | ⟨a8, t⟩⟩⟩⟩⟩⟩⟩⟩⟩
    all_goals first | (exfalso; simp only [List.length_cons] at hl; omega; done) | (refine ⟨?_, rfl⟩; unfold Fr.chk; rw [if_neg (by exact hp), if_neg (by show ¬ (_ ∨ _); simp [mkFr])]; simp [mkFr, Fr.plain, frEq])
  refine ⟨key.1, ?_, ?_⟩
  · unfold Fr.bytes Fr.has
    rw [key.1]
    exact key.2
  · intro x hx
    have : ∃ j, x = l.getD j 0 := by
      simp only [mkFr, Fr.data, List.mem_cons, List.not_mem_nil, or_false] at hx
      rcases hx with rfl | rfl | rfl | rfl | rfl | rfl | rfl | rfl <;> exact ⟨_, rfl⟩
    obtain ⟨j, rfl⟩ := this
    exact byt_getD hb j

theorem flipL_inj {a b : List Int} (h : flipL a = flipL b) : a = b := by
  have := congrArg flipL h
  rwa [flipL_flip, flipL_flip] at this
theorem Blk.away {w : World} {b g i : Nat} {u : Value} {t : TypeId} {cs : Array Value} (h : Blk w b cs t) (hn : g ≠ b) : Blk (w.setCell ⟨g, i, none⟩ u) b cs t := h.other ⟨g, i, none⟩ u (fun e => hn e.symm)
theorem Own8.other {w : World} {B g g' i n c : Nat} {u : Value} {l : List Int} (h : Own8 w B (.slice (some ⟨g, 0, none⟩) n c) l) (hn : g' ≠ g) : Own8 (w.setCell ⟨g', i, none⟩ u) B (.slice (some ⟨g, 0, none⟩) n c) l := by
  obtain ⟨h0, h⟩ := h
  refine ⟨h0, ?_⟩
  rcases h with h | ⟨g1, cap, cur, hv, hb, hh, r⟩
  · exact .inl h
  · have : g1 = g := by injection hv with h1 _ _; injection h1 with h1; injection h1 with h1 _ _; exact h1.symm
    subst this
    exact .inr ⟨g1, cap, cur, hv, hb, Blk.away hh hn, r⟩

set_option maxRecDepth 100000 in
set_option maxHeartbeats 4000000 in
theorem send_c (c : Nat) (s : Ck) (v : Value) (l : List Int) (t0 t1 t2 t3 t4 t5 t6 t7 : Int) (second : Bool) (w : World) (h : CkAt w c s) (hv : Bs w v l) (hl0 : 1 ≤ l.length) (hl1 : l.length ≤ 8) (hs : s.size = l.length) (hh : s.half = false) (hT : Byt [t0, t1, t2, t3, t4, t5, t6, t7]) (hc : c < w.heap.size) :
    Calls Try.prog 18 #[.pointer (some ⟨c, 0, none⟩), v, .agg #[.int .u8 t0, .int .u8 t1, .int .u8 t2, .int .u8 t3, .int .u8 t4, .int .u8 t5, .int .u8 t6, .int .u8 t7], .bool second] w
      fun e w' => e = .returned (.int .i64 (if zz [t0, t1, t2, t3, t4, t5, t6, t7] l.length then 2 else 5)) ∧ CkAt w' c ⟨s.size, false, [], if zz [t0, t1, t2, t3, t4, t5, t6, t7] l.length then l else s.value⟩ ∧ Only c w w' := by
  obtain ⟨T, hTT⟩ : ∃ T, Is [t0, t1, t2, t3, t4, t5, t6, t7] T := ⟨_, Is.refl _⟩
  rw [hTT.eq] at hT ⊢
  have hTl : T.length = 8 := by rw [← hTT.eq]; rfl
  obtain ⟨E, hE⟩ : ∃ E, Is (mkE 257 258 l) E := ⟨_, Is.refl _⟩
  obtain ⟨c1, y1, d1⟩ := mk_small (p := 257) (l := l) (by omega) (by omega) hl1 hv.byt
  obtain ⟨c2, y2, d2⟩ := mk_small (p := 258) (l := flipL l) (by omega) (by omega) (by rw [flipL_len]; exact hl1) (flipL_byt hv.byt)
  have hE0 : mkE 257 258 l = 0 := by unfold mkE; rw [if_neg (by omega), c1, c2]; rfl
  have HM := hid (fun w hb => pmake_c 257 258 v l w hb)
  have HMP : Hid (∀ w' u, mkPost w' 257 258 l u → FrS w' u [mkFr 257 l, mkFr 258 (flipL l)]) := hid (fun w' u h => by
    rcases h with h | h
    · exact absurd hE0 h.1
    · exact h.2)
  rw [hE0] at HM
  have HB1 := hid (fun w => bytes_v (mkFr 257 l) w d1)
  have HB2 := hid (fun w => bytes_v (mkFr 258 (flipL l)) w d2)
  rw [y1] at HB1
  rw [y2] at HB2
  generalize mkFr 257 l = F at *
  generalize mkFr 258 (flipL l) = G at *
  clear c1 c2 y1 y2 d1 d2 hE0 hE
  have HV := hid hv
  have HC := hid h
  have HT := hid hT
  have hbl := hid hv.byt
  obtain ⟨n, hn⟩ : ∃ n, Is l.length n := ⟨_, Is.refl _⟩
  have HN : Hid (l.length = n ∧ 1 ≤ n ∧ n ≤ 8 ∧ s.size = n ∧ s.half = false ∧ T.length = 8) := hid ⟨hn.eq, by rw [← hn.eq]; exact hl0, by rw [← hn.eq]; exact hl1, by rw [← hn.eq]; exact hs, hh, hTl⟩
  clear hl0 hl1 hs hh hTl h hv hT
  obtain ⟨zt, hz⟩ : ∃ z, Is (zz T l.length) z := ⟨_, Is.refl _⟩
  rw [hz.eq]
  have FIN : Hid (∀ X Y : List Int, X.length = n → Y.length = n → (flipL X = Y ↔ zz T n = true) → (zz T n = true → X = l) →
      s.plain X = (⟨s.size, true, X, s.value⟩, 1) ∧ Ck.turned ⟨s.size, true, X, s.value⟩ Y = (⟨s.size, false, [], if zt then l else s.value⟩, if zt then 2 else 5)) := hid (fun X Y hX hY h1 h2 => by
    have hN := HN.out
    have hzt := hz.eq
    rw [hN.1] at hzt
    rw [hzt] at h1 h2
    refine ⟨?_, ?_⟩
    · unfold Ck.plain
      rw [if_neg (by rw [hX, hN.2.2.2.1]; simp), if_neg (by rw [hN.2.2.2.2.1]; simp)]
    · unfold Ck.turned
      rw [if_neg (by show ¬ ((Y.length : Int) ≠ s.size); rw [hY, hN.2.2.2.1]; simp), if_neg (by simp)]
      cases zt
      · rw [if_pos (by show flipL X ≠ Y; intro e; have := h1.1 e; cases this)]
        rfl
      · rw [if_neg (by show ¬ (flipL X ≠ Y); rw [h1.2 rfl]; simp), h2 rfl]
        rfl)
  have K0 : Ext w (w.alloc (.cells #[.int .u8 t0, .int .u8 t1, .int .u8 t2, .int .u8 t3, .int .u8 t4, .int .u8 t5, .int .u8 t6, .int .u8 t7] 44)) := (by repeat (first | with_reducible exact Ext.refl _ | with_reducible assumption | with_reducible apply Ext.alloc | with_reducible apply Ext.drew | with_reducible apply Ext.drewN | (with_reducible refine Ext.set' ?_ (by first | omega | (simp only [World.size_alloc, World.size_setCell]; omega))) | (with_reducible refine Ext.trans ?_ (by with_reducible assumption)) | (with_reducible refine Ext.only ?_ (by with_reducible assumption) (by omega))))
  have HBT := hid (Blk.new w #[.int .u8 t0, .int .u8 t1, .int .u8 t2, .int .u8 t3, .int .u8 t4, .int .u8 t5, .int .u8 t6, .int .u8 t7] 44)
  go_enter Try.func18, Try.ntmps18
  go_wp2_with fail
  (with_reducible refine (HM.out _ (HV.out.ext K0)).mono ?_); rintro e w1 ⟨u1, rfl, p1, k1⟩
  have P1 := HMP.out _ _ p1
  obtain ⟨gf, cf, rfl, _, P1⟩ := P1
  have l0 : ∀ x : After w1, (ldF (.pointer (some ⟨gf, 0, none⟩))).run Try.prog x.wd = .ok F.val x.wd := fun x => by have := P1 0 F rfl x.wd x.ext; simpa using this
  have l1 : ∀ x : After w1, (ldF (.pointer (some ⟨gf, 11, none⟩))).run Try.prog x.wd = .ok G.val x.wd := fun x => by have := P1 1 G rfl x.wd x.ext; simpa using this
  have BT := hid (k1.blk HBT.out)
  have K1 : Ext w w1 := K0.trans k1
  have hwT : w.heap.size < w1.heap.size := by
    have := k1.le
    simp only [World.size_alloc] at this
    omega
  clear P1 p1 K0 k1 HBT
  have E1 := Ext.refl w1
  go_wp2_with fail
  refine wp_region_go (sp := spOf (R := Ext) [(3, Told.own w1.heap.size l), (7, Told.own w1.heap.size (flipL l))]) (C := fun w' => ∃ n : After w1, w' = n.wd) (R := Ext) (by kernel_rfl) (by kernel_rfl) (spOf_mono _) (After.drew _) ?_
  repeat (first | ((with_reducible refine go_nil ?_)) | (refine go_skip' (by rfl) ?_; (try simp only [Act.put, List.setIfInBounds_toArray, List.set_cons_zero, List.set_cons_succ])) | (refine go_quiet' (by rfl) (by rfl) (by rfl) ?_; intro K hK; go_big_quiet_op; go_big_quiet_on) | (refine go_nilcheck _ _ rfl rfl (by rfl) (by rfl) ?_; (try simp only [Act.put, List.setIfInBounds_toArray, List.set_cons_zero, List.set_cons_succ])))
  (refine go_act (by rfl) (by rfl) ?_ ?_; (focus (intro w' hC hM; obtain ⟨x, rfl⟩ := hC; ((go_simp; exact Calls.told_own (HB1.out x.wd))))); intro v hv; obtain ⟨_, _, hv, _⟩ := hv; ((obtain ⟨g1, q1, rfl, hg1, hq1⟩ := Own8.shape hv (by have := HN.out; omega))); (try simp only [Act.put, List.setIfInBounds_toArray, List.set_cons_zero, List.set_cons_succ]))
  repeat (first | ((with_reducible refine go_nil ?_)) | (refine go_skip' (by rfl) ?_; (try simp only [Act.put, List.setIfInBounds_toArray, List.set_cons_zero, List.set_cons_succ])) | (refine go_quiet' (by rfl) (by rfl) (by rfl) ?_; intro K hK; go_big_quiet_op; go_big_quiet_on) | (refine go_nilcheck _ _ rfl rfl (by rfl) (by rfl) ?_; (try simp only [Act.put, List.setIfInBounds_toArray, List.set_cons_zero, List.set_cons_succ])))
  (refine go_act (by rfl) (by rfl) ?_ ?_; (focus (intro w' hC hM; obtain ⟨x, rfl⟩ := hC; ((go_simp; exact Calls.told_own (HB2.out x.wd))))); intro v hv; obtain ⟨_, _, hv, _⟩ := hv; ((obtain ⟨g2, q2, rfl, hg2, hq2⟩ := Own8.shape hv (by rw [flipL_len]; have := HN.out; omega))); (try simp only [Act.put, List.setIfInBounds_toArray, List.set_cons_zero, List.set_cons_succ]))
  repeat (first | ((with_reducible refine go_nil ?_)) | (refine go_skip' (by rfl) ?_; (try simp only [Act.put, List.setIfInBounds_toArray, List.set_cons_zero, List.set_cons_succ])) | (refine go_quiet' (by rfl) (by rfl) (by rfl) ?_; intro K hK; go_big_quiet_op; go_big_quiet_on) | (refine go_nilcheck _ _ rfl rfl (by rfl) (by rfl) ?_; (try simp only [Act.put, List.setIfInBounds_toArray, List.set_cons_zero, List.set_cons_succ])))
  rw [flipL_len, HN.out.1]
  rw [flipL_len] at hq2
  rw [HN.out.1] at hq1 hq2
  intro w2 hC hall
  obtain ⟨x, rfl⟩ := hC
  have o1 : Own8 x.wd w1.heap.size (.slice (some ⟨g1, 0, none⟩) n q1) l := hall _ (.inr (.inl rfl))
  have o2 : Own8 x.wd w1.heap.size (.slice (some ⟨g2, 0, none⟩) n q2) (flipL l) := hall _ (.inl rfl)
  have hgg : g1 ≠ g2 := by
    rintro rfl
    have a1 := (o1.put (i := 0) (by have := HN.out; omega)).1
    have a2 := (o2.put (i := 0) (by rw [flipL_len]; have := HN.out; omega)).1
    rw [a1] at a2
    have hb0 := byt_getD hbl.out 0
    have hf0 : (flipL l).getD 0 0 = 255 - l.getD 0 0 := by
      have := HN.out
      rcases l with _ | ⟨y, t⟩
      · simp at this; omega
      · rfl
    rw [hf0] at a2
    injection a2 with a2
    injection a2 with a2
    omega
  have O1 := hid o1
  have O2 := hid o2
  have K2 : Ext w x.wd := K1.trans x.ext
  have BT2 := hid (x.ext.blk BT.out)
  have hw1 : w1.heap.size ≤ x.wd.heap.size := x.ext.le
  have hc1 : c < w1.heap.size := Nat.lt_of_lt_of_le hc K1.le
  have hww : w.heap.size ≤ w1.heap.size := K1.le
  generalize x.wd = w2 at *
  clear hall o1 o2 l0 l1 HB1 HB2 BT E1
  cases second
  · go_wp2_with fail
    go_loopg [13] n (fun g u13 wr => ∃ (i : Nat) (Z : List Int), i + g = n ∧ u13 = .int .i64 i ∧ Own8 wr w1.heap.size (.slice (some ⟨g1, 0, none⟩) n q1) Z ∧ Hid (Z.length = n ∧ ∀ j, j < n → Z.getD j 0 = xat l T i j) ∧ Own8 wr w1.heap.size (.slice (some ⟨g2, 0, none⟩) n q2) (flipL l) ∧ Blk wr w.heap.size #[.int .u8 t0, .int .u8 t1, .int .u8 t2, .int .u8 t3, .int .u8 t4, .int .u8 t5, .int .u8 t6, .int .u8 t7] 44 ∧ Ext w wr)
    case atStart => exact ⟨0, l, by omega, rfl, O1.out, hid ⟨by first | exact HN.out.1 | (rw [flipL_len]; exact HN.out.1), fun j hj => by unfold xat; rw [if_neg (by omega)]⟩, O2.out, BT2.out, K2⟩
    case round =>
      obtain ⟨i, Z, hig, rfl, hz1, hZ, hz2, hbt, K⟩ := hrel
      clear K2 BT2 O1 O2
      by_cases hlt : i < n
      · have e1 : decide ((i : Int) < (n : Int)) = true := by simp; omega
        obtain ⟨cz, fz, hput⟩ := hz1.put (i := i) (by rw [hZ.out.1]; exact hlt)
        have hT8 : w.heap.size < w1.heap.size := hwT
        have ct : wr.cell? ⟨w.heap.size, i, none⟩ = some (.int .u8 (T.getD i 0)) := by
          refine hbt.cell i _ ?_
          rw [← hTT.eq]
          have := HN.out
          rcases (by omega : i = 0 ∨ i = 1 ∨ i = 2 ∨ i = 3 ∨ i = 4 ∨ i = 5 ∨ i = 6 ∨ i = 7) with rfl | rfl | rfl | rfl | rfl | rfl | rfl | rfl <;> rfl
        have HP := hid (hput (Go.bits .xor .u8 (Z.getD i 0) (T.getD i 0)))
        have HS := hid (And.intro hZ.out.1 (xat_step hlt hZ.out.1 hZ.out.2))
        have i0 : (0 : Int) ≤ (i : Int) := by omega
        have i1 : (i : Int) < (n : Int) := by omega
        have i8 : (i : Int) < 8 := by have := HN.out; omega
        have D : ∀ p : Addr, wr.drew.cell? p = wr.cell? p := fun p => rfl
        generalize Z.getD i 0 = zi at *
        generalize T.getD i 0 = ti at *
        clear hput hz1 hZ
        go_wp2_with fail
        go_region
        go_wp2_with fail
        go_roundg (n - i - 1)
        case rel => exact ⟨i + 1, _, by omega, by go_num, HP.out.drew, hid ⟨by rw [List.length_set]; exact HS.out.1, HS.out.2⟩, (hz2.other (by omega)).drew, (hbt.away (by show g1 ≠ _; omega)).drew, (by repeat (first | with_reducible exact Ext.refl _ | with_reducible assumption | with_reducible apply Ext.alloc | with_reducible apply Ext.drew | with_reducible apply Ext.drewN | (with_reducible refine Ext.set' ?_ (by first | omega | (simp only [World.size_alloc, World.size_setCell]; omega))) | (with_reducible refine Ext.trans ?_ (by with_reducible assumption)) | (with_reducible refine Ext.only ?_ (by with_reducible assumption) (by omega))))⟩
        case measure => omega
      · obtain rfl : i = n := by omega
        have e1 : decide ((i : Int) < (i : Int)) = false := by simp
        have hx := xat_end (m := l) (T := T) (Z := Z) (n := i) (by first | exact HN.out.1 | (rw [flipL_len]; exact HN.out.1)) hZ.out.1 (by have := HN.out; omega) (by first | exact hbl.out | exact flipL_byt hbl.out) HT.out hZ.out.2
        have HX := hid (FIN.out Z (flipL l) (by first | exact hZ.out.1 | exact HN.out.1) (by first | exact hZ.out.1 | (rw [flipL_len]; exact HN.out.1)) (by first | exact hx.1 | exact ⟨fun e => hx.1.1 (flipL_inj e), fun e => by rw [hx.1.2 e]⟩ | exact ⟨fun e => hx.1.1 e.symm, fun e => (hx.1.2 e).symm⟩) (by first | exact fun e => hx.1.2 e | exact fun _ => rfl))
        have B1 : Bs wr (.slice (some ⟨g1, 0, none⟩) i q1) Z := Bs.own (by assumption) (by first | exact hx.2 | exact hbl.out)
        have B2 : Bs wr (.slice (some ⟨g2, 0, none⟩) i q2) (flipL l) := Bs.own (by assumption) (by first | exact hx.2 | exact flipL_byt hbl.out)
        have HB1 := hid B1
        have HB2 := hid B2
        have HCK := hid (HC.out.ext K)
        have hXL : (Z).length ≤ 140737488355000 := by have := HN.out; first | (rw [hZ.out.1]; omega) | omega
        have hYL : ((flipL l)).length ≤ 140737488355000 := by have := HN.out; first | (rw [hZ.out.1]; omega) | (rw [flipL_len]; omega)
        have HXL := hid (And.intro hXL hYL)
        clear hx B1 B2 hXL hYL hz1 hz2 hZ hbt
        go_wp2_with fail
        (with_reducible refine (plain_c c s _ _ _ HCK.out HB1.out HXL.out.1).mono ?_); rintro e w3 ⟨rfl, hk, k3⟩
        rw [HX.out.1] at hk ⊢
        simp only at hk
        have HB3 := hid (HCK.out.bs HB2.out k3)
        have HK3 := hid hk
        have K3 : Only c w w3 := (Only.of_ext K).trans k3
        clear hk k3 K
        go_wp2_with fail
        (with_reducible refine (turned_c c _ _ _ _ HK3.out HB3.out HXL.out.1).mono ?_); rintro e w4 ⟨rfl, hk, k4⟩
        rw [HX.out.2] at hk ⊢
        simp only at hk
        have K4 := K3.trans k4
        have HK4 := hid hk
        clear hk k4 K3
        cases zt
        all_goals
          go_wp2_with fail
          go_ret
          exact ⟨rfl, HK4.out, K4⟩
  · go_wp2_with fail
    go_loopg [13] n (fun g u13 wr => ∃ (i : Nat) (Z : List Int), i + g = n ∧ u13 = .int .i64 i ∧ Own8 wr w1.heap.size (.slice (some ⟨g2, 0, none⟩) n q2) Z ∧ Hid (Z.length = n ∧ ∀ j, j < n → Z.getD j 0 = xat (flipL l) T i j) ∧ Own8 wr w1.heap.size (.slice (some ⟨g1, 0, none⟩) n q1) l ∧ Blk wr w.heap.size #[.int .u8 t0, .int .u8 t1, .int .u8 t2, .int .u8 t3, .int .u8 t4, .int .u8 t5, .int .u8 t6, .int .u8 t7] 44 ∧ Ext w wr)
    case atStart => exact ⟨0, (flipL l), by omega, rfl, O2.out, hid ⟨by first | exact HN.out.1 | (rw [flipL_len]; exact HN.out.1), fun j hj => by unfold xat; rw [if_neg (by omega)]⟩, O1.out, BT2.out, K2⟩
    case round =>
      obtain ⟨i, Z, hig, rfl, hz1, hZ, hz2, hbt, K⟩ := hrel
      clear K2 BT2 O1 O2
      by_cases hlt : i < n
      · have e1 : decide ((i : Int) < (n : Int)) = true := by simp; omega
        obtain ⟨cz, fz, hput⟩ := hz1.put (i := i) (by rw [hZ.out.1]; exact hlt)
        have hT8 : w.heap.size < w1.heap.size := hwT
        have ct : wr.cell? ⟨w.heap.size, i, none⟩ = some (.int .u8 (T.getD i 0)) := by
          refine hbt.cell i _ ?_
          rw [← hTT.eq]
          have := HN.out
          rcases (by omega : i = 0 ∨ i = 1 ∨ i = 2 ∨ i = 3 ∨ i = 4 ∨ i = 5 ∨ i = 6 ∨ i = 7) with rfl | rfl | rfl | rfl | rfl | rfl | rfl | rfl <;> rfl
        have HP := hid (hput (Go.bits .xor .u8 (Z.getD i 0) (T.getD i 0)))
        have HS := hid (And.intro hZ.out.1 (xat_step hlt hZ.out.1 hZ.out.2))
        have i0 : (0 : Int) ≤ (i : Int) := by omega
        have i1 : (i : Int) < (n : Int) := by omega
        have i8 : (i : Int) < 8 := by have := HN.out; omega
        have D : ∀ p : Addr, wr.drew.cell? p = wr.cell? p := fun p => rfl
        generalize Z.getD i 0 = zi at *
        generalize T.getD i 0 = ti at *
        clear hput hz1 hZ
        go_wp2_with fail
        go_region
        go_wp2_with fail
        go_roundg (n - i - 1)
        case rel => exact ⟨i + 1, _, by omega, by go_num, HP.out.drew, hid ⟨by rw [List.length_set]; exact HS.out.1, HS.out.2⟩, (hz2.other (by omega)).drew, (hbt.away (by show g2 ≠ _; omega)).drew, (by repeat (first | with_reducible exact Ext.refl _ | with_reducible assumption | with_reducible apply Ext.alloc | with_reducible apply Ext.drew | with_reducible apply Ext.drewN | (with_reducible refine Ext.set' ?_ (by first | omega | (simp only [World.size_alloc, World.size_setCell]; omega))) | (with_reducible refine Ext.trans ?_ (by with_reducible assumption)) | (with_reducible refine Ext.only ?_ (by with_reducible assumption) (by omega))))⟩
        case measure => omega
      · obtain rfl : i = n := by omega
        have e1 : decide ((i : Int) < (i : Int)) = false := by simp
        have hx := xat_end (m := (flipL l)) (T := T) (Z := Z) (n := i) (by first | exact HN.out.1 | (rw [flipL_len]; exact HN.out.1)) hZ.out.1 (by have := HN.out; omega) (by first | exact hbl.out | exact flipL_byt hbl.out) HT.out hZ.out.2
        have HX := hid (FIN.out l Z (by first | exact hZ.out.1 | exact HN.out.1) (by first | exact hZ.out.1 | (rw [flipL_len]; exact HN.out.1)) (by first | exact hx.1 | exact ⟨fun e => hx.1.1 (flipL_inj e), fun e => by rw [hx.1.2 e]⟩ | exact ⟨fun e => hx.1.1 e.symm, fun e => (hx.1.2 e).symm⟩) (by first | exact fun e => hx.1.2 e | exact fun _ => rfl))
        have B1 : Bs wr (.slice (some ⟨g1, 0, none⟩) i q1) l := Bs.own (by assumption) (by first | exact hx.2 | exact hbl.out)
        have B2 : Bs wr (.slice (some ⟨g2, 0, none⟩) i q2) Z := Bs.own (by assumption) (by first | exact hx.2 | exact flipL_byt hbl.out)
        have HB1 := hid B1
        have HB2 := hid B2
        have HCK := hid (HC.out.ext K)
        have hXL : (l).length ≤ 140737488355000 := by have := HN.out; first | (rw [hZ.out.1]; omega) | omega
        have hYL : (Z).length ≤ 140737488355000 := by have := HN.out; first | (rw [hZ.out.1]; omega) | (rw [flipL_len]; omega)
        have HXL := hid (And.intro hXL hYL)
        clear hx B1 B2 hXL hYL hz1 hz2 hZ hbt
        go_wp2_with fail
        (with_reducible refine (plain_c c s _ _ _ HCK.out HB1.out HXL.out.1).mono ?_); rintro e w3 ⟨rfl, hk, k3⟩
        rw [HX.out.1] at hk ⊢
        simp only at hk
        have HB3 := hid (HCK.out.bs HB2.out k3)
        have HK3 := hid hk
        have K3 : Only c w w3 := (Only.of_ext K).trans k3
        clear hk k3 K
        go_wp2_with fail
        (with_reducible refine (turned_c c _ _ _ _ HK3.out HB3.out HXL.out.1).mono ?_); rintro e w4 ⟨rfl, hk, k4⟩
        rw [HX.out.2] at hk ⊢
        simp only at hk
        have K4 := K3.trans k4
        have HK4 := hid hk
        clear hk k4 K3
        cases zt
        all_goals
          go_wp2_with fail
          go_ret
          exact ⟨rfl, HK4.out, K4⟩

end Go.Proofs.Ytfjmflkfnccohaa
