/- Package frame: Flip; the reference's Flip. -/
import Derived.Test.YtcahjmnkcdcbpaaFrV
import Derived.Test.YtcahjmnkcdcbpaaWFlip
import Derived.Deep.RegionHeld3
import Derived.Deep.RegionWith
set_option linter.unusedSimpArgs false
set_option linter.unusedVariables false
set_option linter.unnecessarySimpa false
namespace Go.Proofs.Ytcahjmnkcdcbpaa
open Go.RowKit Go.Proofs.YtcahjmnkcdcbpaaW.PrintWords
attribute [local go_sem] max2_max min2_min max_of_two min_of_two ext_drew' ext_alloc bxF_fr stF_put ldF_put ldV_put alF_fr
attribute [local go_sem ↓] ldF_in ldV_in bxF_in stF_in alF_in

theorem data_v (f : Fr) (w : World) : Calls Try.prog 30 #[f.val] w fun e w' => e = .returned (.bool f.has) ∧ Ext w w' := by
  obtain ⟨id, rtr, len, d0, d1, d2, d3, d4, d5, d6, d7⟩ := f
  exact data_c id rtr len d0 d1 d2 d3 d4 d5 d6 d7 w

def mkD (id : Int) (rtr : Bool) (len : Int) (D : List Int) : Fr := ⟨id, rtr, len, D.getD 0 0, D.getD 1 0, D.getD 2 0, D.getD 3 0, D.getD 4 0, D.getD 5 0, D.getD 6 0, D.getD 7 0⟩
def Fr.flip (f : Fr) : Fr := if f.has then mkD f.id f.rtr f.len (flipL (f.data.take f.len.toNat) ++ f.data.drop f.len.toNat) else f

theorem setAll_flip (id : Int) (rtr : Bool) (len d0 d1 d2 d3 d4 d5 d6 d7 : Int) (L : List Int) (hL : L.length ≤ 8) :
    setAll #[.int .i64 id, .bool rtr, .int .i64 len, .int .u8 d0, .int .u8 d1, .int .u8 d2, .int .u8 d3, .int .u8 d4, .int .u8 d5, .int .u8 d6, .int .u8 d7] 3 ((L.take 8).map (Value.int .u8)) = (mkD id rtr len (L ++ [d0, d1, d2, d3, d4, d5, d6, d7].drop L.length)).cells := by
  rcases L with _ | ⟨a0, _ | ⟨a1, _ | ⟨a2, _ | ⟨a3, _ | ⟨a4, _ | ⟨a5, _ | ⟨a6, _ | ⟨a7, _ | ⟨a8, t⟩⟩⟩⟩⟩⟩⟩⟩⟩
  all_goals first | kernel_rfl | (simp at hL; omega)

theorem has_len {f : Fr} (h : f.has = true) : f.rtr = false ∧ 0 ≤ f.len ∧ f.len ≤ 8 ∧ f.chk = 0 := by
  unfold Fr.has at h
  simp only [Bool.and_eq_true, beq_iff_eq, Bool.not_eq_true'] at h
  have hc := h.1
  unfold Fr.chk at hc
  refine ⟨h.2, ?_, ?_, h.1⟩
  all_goals
    split at hc
    · omega
    · split at hc
      · omega
      · omega

set_option maxRecDepth 100000 in
set_option maxHeartbeats 4000000 in
theorem flip_v (f : Fr) (w : World) (hd : Byt f.data) : Calls Try.prog 22 #[f.val] w fun e w' => e = .returned f.flip.val ∧ Ext w w' := by
  have K0 : Ext w ((w.alloc (.cells f.cells FT)).alloc (.cells Fr.zero.cells FT)) := (by repeat (first | with_reducible exact Ext.refl _ | with_reducible assumption | with_reducible apply Ext.alloc | with_reducible apply Ext.drew | with_reducible apply Ext.drewN | (with_reducible refine Ext.set' ?_ (by first | omega | (simp only [World.size_alloc, World.size_setCell]; omega))) | (with_reducible refine Ext.trans ?_ (by with_reducible assumption)) | (with_reducible refine Ext.only ?_ (by with_reducible assumption) (by omega))))
  have b0 := (Blk.new w f.cells FT).alloc (.cells Fr.zero.cells FT)
  have b1 := Blk.new2 w (.cells f.cells FT) Fr.zero.cells FT
  have CD := hid (fun w => data_v f w)
  obtain ⟨R, hR⟩ : ∃ R, Is f.flip R := ⟨_, Is.refl _⟩
  rw [hR.eq]
  by_cases hh : f.has = true
  · have hp := has_len hh
    have hR2 : Is (mkD f.id f.rtr f.len (flipL (f.data.take f.len.toNat) ++ f.data.drop f.len.toNat)) R := Is.mk (by rw [← hR.eq]; simp [Fr.flip, hh])
    rw [hh] at CD
    clear hR hh
    obtain ⟨id, rtr, len, d0, d1, d2, d3, d4, d5, d6, d7⟩ := f
    obtain ⟨rfl, l0, l1, _⟩ := hp
    simp only at l0 l1 hR2
    obtain ⟨k, rfl⟩ := Int.eq_ofNat_of_zero_le l0
    rw [Int.toNat_natCast] at hR2
    have hk : k ≤ 8 := by omega
    have hlen : (flipL ([d0, d1, d2, d3, d4, d5, d6, d7].take k)).length = k := by rw [flipL_len]; simp; omega
    have hset := setAll_flip id false k d0 d1 d2 d3 d4 d5 d6 d7 (flipL ([d0, d1, d2, d3, d4, d5, d6, d7].take k)) (by omega)
    rw [hlen] at hset
    rw [show ([d0, d1, d2, d3, d4, d5, d6, d7] : List Int) = Fr.data ⟨id, false, k, d0, d1, d2, d3, d4, d5, d6, d7⟩ from rfl, hR2.eq] at hset
    generalize hW : ((w.alloc (.cells (Fr.cells ⟨id, false, k, d0, d1, d2, d3, d4, d5, d6, d7⟩) FT)).alloc (.cells Fr.zero.cells FT)) = W at *
    have L0 := ldF_all b0
    have E0 := Ext.refl W
    go_enter Try.func22, Try.ntmps22
    go_wp2_with fail
    (with_reducible refine (CD.out _).mono ?_); rintro e w1 ⟨rfl, k1⟩
    have K1 : Ext w w1 := (by repeat (first | with_reducible exact Ext.refl _ | with_reducible assumption | with_reducible apply Ext.alloc | with_reducible apply Ext.drew | with_reducible apply Ext.drewN | (with_reducible refine Ext.set' ?_ (by first | omega | (simp only [World.size_alloc, World.size_setCell]; omega))) | (with_reducible refine Ext.trans ?_ (by with_reducible assumption)) | (with_reducible refine Ext.only ?_ (by with_reducible assumption) (by omega))))
    have b2 := k1.blk b0
    have b3 := k1.blk b1
    have b2' := b2
    simp only [Fr.cells] at b2'
    obtain ⟨pc0, pc1, pc2, pc3, pc4, pc5, pc6, pc7, pc8, pc9, pc10, pf0, pf1, pf2, pf3, pf4, pf5, pf6, pf7, pf8, pf9, pf10⟩ := Blk.cells11 b2'
    clear pf0 pf1 pf2 pf3 pf4 pf5 pf6 pf7 pf8 pf9 pf10
    have hbs : Bs w1 (.slice (some ⟨w.heap.size, 3, none⟩) k 8) ([d0, d1, d2, d3, d4, d5, d6, d7].take k) := by
      refine Bs.of_row (bl := w.heap.size) (o := 3) (by simp; omega) hk ⟨by simp; omega, fun _ => ⟨rfl, b2.lt⟩, fun i hi => ?_⟩ (hd.take k)
      rw [List.length_take] at hi
      simp only [List.length_cons, List.length_nil] at hi
      have e : ([d0, d1, d2, d3, d4, d5, d6, d7].take k).getD i 0 = [d0, d1, d2, d3, d4, d5, d6, d7].getD i 0 := by
        rw [List.getD_eq_getElem?_getD, List.getD_eq_getElem?_getD, List.getElem?_take, if_pos (by omega)]
      rw [e]
      rcases (by omega : i = 0 ∨ i = 1 ∨ i = 2 ∨ i = 3 ∨ i = 4 ∨ i = 5 ∨ i = 6 ∨ i = 7) with rfl | rfl | rfl | rfl | rfl | rfl | rfl | rfl <;> assumption
    have C2 : ∀ w', Ext w1 w' → w'.cell? ⟨w.heap.size, 2, none⟩ = some (.int .i64 k) := fun w' q => q.cell pc2
    have E1 := Ext.refl w1
    have KX := k1
    have hk0 : (0 : Int) ≤ (k : Int) := by omega
    have hk8 : (k : Int) ≤ 8 := by omega
    clear hW L0 CD b0 b1 K0 E0 b2' pc0 pc1 pc2 pc3 pc4 pc5 pc6 pc7 pc8 pc9 pc10 k1
    have HB := hid (And.intro b2 (And.intro b3 (And.intro hbs (And.intro hset hlen))))
    clear b2 b3 hbs hset hlen hR2
    go_wp2_with fail
    go_region_with (first | (go_at_call 31; (with_reducible refine (wflip_c _ _ _ (HB.out.2.2.1.ext (Ext.drew (Ext.refl _))) (by simp; omega)).mono ?_); rintro e w2 ⟨u, rfl, hu, k2⟩; obtain ⟨w3, n3, hrun, b4, hsz, hoth, hext⟩ := copy_data w2 w.heap.size 3 _ u _ ((Ext.trans (Ext.drew E1) k2).blk HB.out.1) rfl (Bs.own hu (flipL_byt (hd.take k)))))
    have K3 : Ext w w3 := hext w (Ext.trans K1 (Ext.trans (Ext.drew (Ext.refl _)) k2)) (Nat.le_refl _)
    have b5 : Blk w3 w.heap.size R.cells FT := by rw [← HB.out.2.2.2.1]; exact b4
    have L5 := ldF_blk b5
    have f3 := FrB.of (hoth _ _ _ (by omega) ((Ext.trans (Ext.drew (Ext.refl _)) k2).blk HB.out.2.1))
    clear hrun b4 hsz hoth hext
    go_wp2_with fail
    exact bodyPost_ret (res_fr (Try.results22) rfl (putF_blk R f3)) rfl ⟨rfl, K3.putF (by omega)⟩
  · have hh' : f.has = false := by simpa using hh
    have hR2 : Is f R := Is.mk (by rw [← hR.eq]; simp [Fr.flip, hh'])
    rw [← hR2.eq]
    rw [hh'] at CD
    clear hR hR2 hh hh'
    generalize hW : ((w.alloc (.cells f.cells FT)).alloc (.cells Fr.zero.cells FT)) = W at *
    have L0 := ldF_all b0
    have E0 := Ext.refl W
    go_enter Try.func22, Try.ntmps22
    go_wp2_with fail
    (with_reducible refine (CD.out _).mono ?_); rintro e w1 ⟨rfl, k1⟩
    have K1 : Ext w w1 := (by repeat (first | with_reducible exact Ext.refl _ | with_reducible assumption | with_reducible apply Ext.alloc | with_reducible apply Ext.drew | with_reducible apply Ext.drewN | (with_reducible refine Ext.set' ?_ (by first | omega | (simp only [World.size_alloc, World.size_setCell]; omega))) | (with_reducible refine Ext.trans ?_ (by with_reducible assumption)) | (with_reducible refine Ext.only ?_ (by with_reducible assumption) (by omega))))
    have fb := FrB.of (k1.blk b1)
    go_wp2_with fail
    exact bodyPost_ret (res_fr (Try.results22) rfl (putF_blk f fb)) rfl ⟨rfl, K1.putF (by omega)⟩

theorem mkD_data (f : Fr) : mkD f.id f.rtr f.len f.data = f := rfl
theorem mkD_at (id : Int) (rtr : Bool) (len : Int) (D : List Int) {i : Nat} (hi : i < 8) : (mkD id rtr len D).data.getD i 0 = D.getD i 0 := by
  rcases (by omega : i = 0 ∨ i = 1 ∨ i = 2 ∨ i = 3 ∨ i = 4 ∨ i = 5 ∨ i = 6 ∨ i = 7) with rfl | rfl | rfl | rfl | rfl | rfl | rfl | rfl <;> rfl
theorem mkD_set (id : Int) (rtr : Bool) (len : Int) (D : List Int) (hD : D.length = 8) {i : Nat} (hi : i < 8) (x : Int) : (mkD id rtr len D).cells.setIfInBounds (3 + i) (.int .u8 x) = (mkD id rtr len (D.set i x)).cells := by
  rcases D with _ | ⟨a0, _ | ⟨a1, _ | ⟨a2, _ | ⟨a3, _ | ⟨a4, _ | ⟨a5, _ | ⟨a6, _ | ⟨a7, _ | ⟨a8, t⟩⟩⟩⟩⟩⟩⟩⟩⟩
  all_goals first | (simp at hD; done) | (simp at hD; omega) | skip
  rcases (by omega : i = 0 ∨ i = 1 ∨ i = 2 ∨ i = 3 ∨ i = 4 ∨ i = 5 ∨ i = 6 ∨ i = 7) with rfl | rfl | rfl | rfl | rfl | rfl | rfl | rfl <;> rfl

theorem rcheck_v' (f : Fr) (w : World) : Calls Try.prog 13 #[f.val] w fun e w' => e = .returned (.int .i64 f.chk) ∧ Ext w w' := rcheck_v f w

theorem flip_step {D : List Int} {i : Nat} (hi : i < D.length) : (flipL (D.take i) ++ D.drop i).getD i 0 = D.getD i 0 ∧ (flipL (D.take i) ++ D.drop i).set i (255 - D.getD i 0) = flipL (D.take (i + 1)) ++ D.drop (i + 1) := by
  have e : (flipL (D.take i)).length = i := by rw [flipL_len, List.length_take]; omega
  refine ⟨?_, ?_⟩
  · rw [List.getD_eq_getElem?_getD, List.getElem?_append_right (by omega), e, Nat.sub_self, List.getElem?_drop, Nat.add_zero, List.getD_eq_getElem?_getD]
  · rw [List.set_append_right _ _ (by omega), e, Nat.sub_self, drop_getD hi, List.set_cons_zero, List.take_add_one, List.getElem?_eq_getElem hi, getD_at hi]
    simp only [flipL, List.map_append, Option.toList_some, List.map_cons, List.map_nil, List.append_assoc, List.cons_append, List.nil_append]

set_option maxRecDepth 100000 in
set_option maxHeartbeats 4000000 in
theorem rflip_v (f : Fr) (w : World) (hd : Byt f.data) : Calls Try.prog 23 #[f.val] w fun e w' => e = .returned f.flip.val ∧ Ext w w' := by
  have K0 : Ext w ((w.alloc (.cells f.cells FT)).alloc (.cells Fr.zero.cells FT)) := (by repeat (first | with_reducible exact Ext.refl _ | with_reducible assumption | with_reducible apply Ext.alloc | with_reducible apply Ext.drew | with_reducible apply Ext.drewN | (with_reducible refine Ext.set' ?_ (by first | omega | (simp only [World.size_alloc, World.size_setCell]; omega))) | (with_reducible refine Ext.trans ?_ (by with_reducible assumption)) | (with_reducible refine Ext.only ?_ (by with_reducible assumption) (by omega))))
  have b0 := (Blk.new w f.cells FT).alloc (.cells Fr.zero.cells FT)
  have b1 := Blk.new2 w (.cells f.cells FT) Fr.zero.cells FT
  have CD := hid (fun w => rcheck_v f w)
  obtain ⟨R, hR⟩ : ∃ R, Is f.flip R := ⟨_, Is.refl _⟩
  rw [hR.eq]
  by_cases hh : f.has = true
  · have hp := has_len hh
    have hR2 : Is (mkD f.id f.rtr f.len (flipL (f.data.take f.len.toNat) ++ f.data.drop f.len.toNat)) R := Is.mk (by rw [← hR.eq]; simp [Fr.flip, hh])
    rw [hp.2.2.2] at CD
    clear hR hh
    have c1 : ∀ w', Ext ((w.alloc (.cells f.cells FT)).alloc (.cells Fr.zero.cells FT)) w' → w'.cell? ⟨w.heap.size, 1, none⟩ = some (.bool f.rtr) := fun w' q => (q.blk b0).cell 1 _ rfl
    rw [hp.1] at c1
    obtain ⟨n, hn⟩ := Int.eq_ofNat_of_zero_le hp.2.1
    have hn8 : n ≤ 8 := by have := hp.2.2.1; omega
    have hR3 : Is (mkD f.id f.rtr f.len (flipL (f.data.take n) ++ f.data.drop n)) R := by have h := hR2; rw [hn, Int.toNat_natCast] at h; rw [hn]; exact h
    clear hp hR2
    generalize hW : ((w.alloc (.cells f.cells FT)).alloc (.cells Fr.zero.cells FT)) = W at *
    have L0 := ldF_all b0
    have E0 := Ext.refl W
    go_enter Try.func23, Try.ntmps23
    go_wp2_with fail
    (with_reducible refine (CD.out _).mono ?_); rintro e w1 ⟨rfl, k1⟩
    have K1 : Ext w w1 := (by repeat (first | with_reducible exact Ext.refl _ | with_reducible assumption | with_reducible apply Ext.alloc | with_reducible apply Ext.drew | with_reducible apply Ext.drewN | (with_reducible refine Ext.set' ?_ (by first | omega | (simp only [World.size_alloc, World.size_setCell]; omega))) | (with_reducible refine Ext.trans ?_ (by with_reducible assumption)) | (with_reducible refine Ext.only ?_ (by with_reducible assumption) (by omega))))
    have b2 := k1.blk b0
    have b3 := k1.blk b1
    clear CD L0 b0 b1 hW E0
    go_wp2_with fail
    clear c1
    go_loopg [3] n (fun g u3 wr => ∃ i : Nat, i + g = n ∧ u3 = .int .i64 i ∧ Blk wr w.heap.size (mkD f.id f.rtr f.len (flipL (f.data.take i) ++ f.data.drop i)).cells FT ∧ Blk wr (w.heap.size + 1) Fr.zero.cells FT ∧ Ext w wr)
    case atStart => exact ⟨0, by omega, rfl, b2, b3, K1⟩
    case round =>
      clear b2 b3 K1
      obtain ⟨i, hik, rfl, hb, hz, K⟩ := hrel
      have c2 : wr.cell? ⟨w.heap.size, 2, none⟩ = some (.int .i64 n) := by rw [← hn]; exact hb.cell 2 _ rfl
      by_cases hk : gk = 0
      · subst hk
        obtain rfl : i = n := by omega
        have e1 : decide ((i : Int) < (i : Int)) = false := by simp
        rw [hR3.eq] at hb
        have L1 := ldF_blk hb
        have f1 := FrB.of hz
        go_wp2_with fail
        exact bodyPost_ret (res_fr (Try.results23) rfl (putF_blk R f1)) rfl ⟨rfl, K.putF (by omega)⟩
      · have hi8 : i < 8 := by omega
        have e1 : decide ((i : Int) < (n : Int)) = true := by simp; omega
        have i0 : (0 : Int) ≤ (i : Int) := by omega
        have i1 : (i : Int) < 8 := by omega
        have c3 := Fr.cellAt hb hi8
        obtain ⟨q1, q2⟩ := flip_step (D := f.data) (i := i) hi8
        rw [mkD_at _ _ _ _ hi8, q1] at c3
        have t3 := hb.free (3 + i)
        have hx := hd.at (show i < f.data.length from hi8)
        have hs := hb.set (3 + i) (.int .u8 (255 - f.data.getD i 0))
        rw [mkD_set _ _ _ _ (by rw [List.length_append, flipL_len, List.length_take, List.length_drop]; show min i 8 + (8 - i) = 8; omega) hi8, q2] at hs
        have hz' := hz.other ⟨w.heap.size, 3 + i, none⟩ (.int .u8 (255 - f.data.getD i 0)) (by show w.heap.size + 1 ≠ w.heap.size; omega)
        have K' : Ext w (wr.setCell ⟨w.heap.size, 3 + i, none⟩ (.int .u8 (255 - f.data.getD i 0))) := (by repeat (first | with_reducible exact Ext.refl _ | with_reducible assumption | with_reducible apply Ext.alloc | with_reducible apply Ext.drew | with_reducible apply Ext.drewN | (with_reducible refine Ext.set' ?_ (by first | omega | (simp only [World.size_alloc, World.size_setCell]; omega))) | (with_reducible refine Ext.trans ?_ (by with_reducible assumption)) | (with_reducible refine Ext.only ?_ (by with_reducible assumption) (by omega))))
        have HH := hid (And.intro hs (And.intro hz' K'))
        clear hs hz' K' q1 q2 hb hz
        generalize f.data.getD i 0 = x at *
        have hw : IntKind.u8.wrap (255 - x) = 255 - x := by show (255 - x) % 256 = _; omega
        go_wp2_with fail
        go_roundg (gk - 1)
        case rel => exact ⟨i + 1, by omega, by go_num, HH.out.1, HH.out.2.1, HH.out.2.2⟩
        case measure => omega
  · have hR2 : Is f R := Is.mk (by rw [← hR.eq]; simp [Fr.flip, hh])
    rw [← hR2.eq]
    clear hR hR2
    have hc : (f.chk ≠ 0) ∨ (f.chk = 0 ∧ f.rtr = true) := by
      by_cases h : f.chk = 0
      · right
        refine ⟨h, ?_⟩
        simp only [Fr.has, h, beq_self_eq_true, Bool.true_and, Bool.not_eq_true', Bool.not_eq_false] at hh
        exact hh
      · exact .inl h
    clear hh
    rcases hc with hc | ⟨hc, hr⟩
    · have e0 : (f.chk != 0) = true := by simpa using hc
      generalize f.chk = m at *
      generalize hW : ((w.alloc (.cells f.cells FT)).alloc (.cells Fr.zero.cells FT)) = W at *
      have L0 := ldF_all b0
      have E0 := Ext.refl W
      go_enter Try.func23, Try.ntmps23
      go_wp2_with fail
      (with_reducible refine (CD.out _).mono ?_); rintro e w1 ⟨rfl, k1⟩
      have K1 : Ext w w1 := (by repeat (first | with_reducible exact Ext.refl _ | with_reducible assumption | with_reducible apply Ext.alloc | with_reducible apply Ext.drew | with_reducible apply Ext.drewN | (with_reducible refine Ext.set' ?_ (by first | omega | (simp only [World.size_alloc, World.size_setCell]; omega))) | (with_reducible refine Ext.trans ?_ (by with_reducible assumption)) | (with_reducible refine Ext.only ?_ (by with_reducible assumption) (by omega))))
      have fb := FrB.of (k1.blk b1)
      go_wp2_with fail
      exact bodyPost_ret (res_fr (Try.results23) rfl (putF_blk f fb)) rfl ⟨rfl, K1.putF (by omega)⟩
    · have c1 : ∀ w', Ext ((w.alloc (.cells f.cells FT)).alloc (.cells Fr.zero.cells FT)) w' → w'.cell? ⟨w.heap.size, 1, none⟩ = some (.bool f.rtr) := fun w' q => (q.blk b0).cell 1 _ rfl
      rw [hr] at c1
      rw [hc] at CD
      generalize hW : ((w.alloc (.cells f.cells FT)).alloc (.cells Fr.zero.cells FT)) = W at *
      have L0 := ldF_all b0
      have E0 := Ext.refl W
      go_enter Try.func23, Try.ntmps23
      go_wp2_with fail
      (with_reducible refine (CD.out _).mono ?_); rintro e w1 ⟨rfl, k1⟩
      have K1 : Ext w w1 := (by repeat (first | with_reducible exact Ext.refl _ | with_reducible assumption | with_reducible apply Ext.alloc | with_reducible apply Ext.drew | with_reducible apply Ext.drewN | (with_reducible refine Ext.set' ?_ (by first | omega | (simp only [World.size_alloc, World.size_setCell]; omega))) | (with_reducible refine Ext.trans ?_ (by with_reducible assumption)) | (with_reducible refine Ext.only ?_ (by with_reducible assumption) (by omega))))
      have fb := FrB.of (k1.blk b1)
      go_wp2_with fail
      exact bodyPost_ret (res_fr (Try.results23) rfl (putF_blk f fb)) rfl ⟨rfl, K1.putF (by omega)⟩

end Go.Proofs.Ytcahjmnkcdcbpaa
