/- The laws of layer 1: 'live', BitsStuffs, BitsNumbers, BitsTexts. -/
import Derived.Test.YtobllheaadmbgaaPlain
set_option linter.unusedSimpArgs false
set_option linter.unusedVariables false
set_option linter.unnecessarySimpa false
namespace Go.Proofs.Ytobllheaadmbgaa
open Go.RowKit Go.Proofs.YtobllheaadmbgaaW.PrintWords
attribute [local go_sem] max2_max min2_min max_of_two min_of_two

set_option maxHeartbeats 2000000 in
theorem live_c (w : World) : Calls Try.prog 9 #[] w fun e w' => e = .returned (.bool true) ∧ Ext w w' := by
  have o1 := own8_lit w w.heap.size [1, 0, 1] (Nat.le_refl _) (by simp)
  have b1 : Bs _ _ [1, 0, 1] := Bs.own o1 (by decide)
  have hn : numL 0 [1, 0, 1] = 5 := by decide
  have hst : stuffL [] 0 0 [1, 1, 1, 1, 1, 0, 0, 0, 0, 1] = [1, 1, 1, 1, 1, 0, 0, 0, 0, 0, 1, 1] := by decide
  have ht : textV [1, 1, 1, 1, 1, 0, 0, 0, 0, 0, 1, 1] = [49, 49, 49, 49, 49, 48, 48, 48, 48, 48, 49, 49] := by decide
  have HN := hid hn
  have HST := hid hst
  have HT := hid ht
  clear hn hst ht
  go_enter Try.func9, Try.ntmps9
  go_wp2_with fail
  refine (num_c _ _ _ b1).mono ?_
  rintro e w1 ⟨rfl, k1⟩
  have h3 : ¬ ([1, 0, 1] : List Int).length > 32 := by decide
  rw [if_neg h3, if_neg h3, HN.out]
  have o2 := own8_lit w1 w1.heap.size [1, 1, 1, 1, 1, 0, 0, 0, 0, 1] (Nat.le_refl _) (by simp)
  have b2 : Bs _ _ [1, 1, 1, 1, 1, 0, 0, 0, 0, 1] := Bs.own o2 (by decide)
  go_wp2_with fail
  refine (stuff_c _ _ _ b2 (by decide)).mono ?_
  rintro e w2 ⟨v2, rfl, o3, k2⟩
  rw [HST.out] at o3
  have b3 : Bs w2 v2 _ := Bs.own o3 (by decide)
  go_wp2_with fail
  refine (text_c _ _ _ b3 (by decide)).mono ?_
  rintro e w3 ⟨rfl, k3⟩
  rw [HT.out]
  go_wp2_with fail
  go_ret
  exact ⟨rfl, (by repeat (first | with_reducible exact Ext.refl _ | with_reducible assumption | with_reducible apply Ext.alloc | with_reducible apply Ext.drew | with_reducible apply Ext.drewN | (with_reducible refine Ext.set' ?_ (by first | omega | (simp only [World.size_alloc, World.size_setCell]; omega))) | (with_reducible refine Ext.trans ?_ (by with_reducible assumption)) | (with_reducible refine Ext.only ?_ (by with_reducible assumption) (by omega))))⟩

set_option maxHeartbeats 2000000 in
theorem stuffs_c (v : Value) (l : List Int) (w : World) (hv : Bs w v l) :
    Calls Try.prog 7 #[v] w fun e w' => e = .returned (.bool true) ∧ Ext w w' := by
  have hv' := hv
  obtain ⟨A, bl, o, c, rfl, hlc, hrow, hb⟩ := hv'
  by_cases h3 : l.length > 300
  · go_enter Try.func7, Try.ntmps7
    go_wp2_with fail
    refine (live_c _).mono ?_
    rintro e w1 ⟨rfl, k1⟩
    go_wp2_with fail
    go_ret
    exact ⟨rfl, (by repeat (first | with_reducible exact Ext.refl _ | with_reducible assumption | with_reducible apply Ext.alloc | with_reducible apply Ext.drew | with_reducible apply Ext.drewN | (with_reducible refine Ext.set' ?_ (by first | omega | (simp only [World.size_alloc, World.size_setCell]; omega))) | (with_reducible refine Ext.trans ?_ (by with_reducible assumption)) | (with_reducible refine Ext.only ?_ (by with_reducible assumption) (by omega))))⟩
  · have s1 := un_same l [] [] 0 0 Run.nil (by omega)
    have s2 := stuff_same l [] 0 0 Run.nil
    obtain ⟨U, hU⟩ : ∃ U, Is (unL [] 0 0 l) U := ⟨_, Is.refl _⟩
    obtain ⟨S, hS⟩ : ∃ S, Is (stuffL [] 0 0 l) S := ⟨_, Is.refl _⟩
    have hU' : Is (runL [] [] (plainV l)) U := Is.mk (by rw [← s1]; exact hU.eq)
    have hS' : Is (rstuffL [] l) S := Is.mk (by rw [← s2]; exact hS.eq)
    clear s1 s2
    go_enter Try.func7, Try.ntmps7
    go_wp2_with fail
    refine (unstuff_c _ _ _ hv (by omega)).mono ?_
    rintro e w1 ⟨v1, rfl, o1, k1⟩
    rw [hU.eq] at o1 ⊢
    go_wp2_with fail
    refine (runstuff_c _ _ _ (hv.ext k1) (by omega)).mono ?_
    rintro e w2 ⟨v2, rfl, o2, k2⟩
    rw [hU'.eq] at o2 ⊢
    go_wp2_with fail
    refine (live_c _).mono ?_
    rintro e w3 ⟨rfl, k3⟩
    go_wp2_with fail
    refine (stuff_c _ _ _ (hv.ext (by repeat (first | with_reducible exact Ext.refl _ | with_reducible assumption | with_reducible apply Ext.alloc | with_reducible apply Ext.drew | with_reducible apply Ext.drewN | (with_reducible refine Ext.set' ?_ (by first | omega | (simp only [World.size_alloc, World.size_setCell]; omega))) | (with_reducible refine Ext.trans ?_ (by with_reducible assumption)) | (with_reducible refine Ext.only ?_ (by with_reducible assumption) (by omega))))) (by omega)).mono ?_
    rintro e w4 ⟨v4, rfl, o4, k4⟩
    rw [hS.eq] at o4
    go_wp2_with fail
    refine (rstuff_c _ _ _ (hv.ext (by repeat (first | with_reducible exact Ext.refl _ | with_reducible assumption | with_reducible apply Ext.alloc | with_reducible apply Ext.drew | with_reducible apply Ext.drewN | (with_reducible refine Ext.set' ?_ (by first | omega | (simp only [World.size_alloc, World.size_setCell]; omega))) | (with_reducible refine Ext.trans ?_ (by with_reducible assumption)) | (with_reducible refine Ext.only ?_ (by with_reducible assumption) (by omega))))) (by omega)).mono ?_
    rintro e w5 ⟨v5, rfl, o5, k5⟩
    rw [hS'.eq] at o5
    have b1 : Bs w1 v1 U.1 := Bs.own o1 (by rw [← hU.eq]; exact unL_byt l [] 0 0 Byt.nil)
    have b2 : Bs w2 v2 U.1 := Bs.own o2 b1.byt
    have b4 : Bs w4 v4 S := Bs.own o4 (by rw [← hS.eq]; exact stuffL_byt l [] 0 0 Byt.nil)
    have b5 : Bs w5 v5 S := Bs.own o5 b4.byt
    go_wp2_with fail
    refine (same_c _ _ _ _ _ (b4.ext k5) b5).mono ?_
    rintro e w6 ⟨rfl, k6⟩
    rw [beq_self_eq_true]
    go_wp2_with fail
    refine (same_c _ _ _ _ _ (b1.ext (by repeat (first | with_reducible exact Ext.refl _ | with_reducible assumption | with_reducible apply Ext.alloc | with_reducible apply Ext.drew | with_reducible apply Ext.drewN | (with_reducible refine Ext.set' ?_ (by first | omega | (simp only [World.size_alloc, World.size_setCell]; omega))) | (with_reducible refine Ext.trans ?_ (by with_reducible assumption)) | (with_reducible refine Ext.only ?_ (by with_reducible assumption) (by omega))))) (b2.ext (by repeat (first | with_reducible exact Ext.refl _ | with_reducible assumption | with_reducible apply Ext.alloc | with_reducible apply Ext.drew | with_reducible apply Ext.drewN | (with_reducible refine Ext.set' ?_ (by first | omega | (simp only [World.size_alloc, World.size_setCell]; omega))) | (with_reducible refine Ext.trans ?_ (by with_reducible assumption)) | (with_reducible refine Ext.only ?_ (by with_reducible assumption) (by omega)))))).mono ?_
    rintro e w7 ⟨rfl, k7⟩
    rw [beq_self_eq_true]
    go_wp2_with fail
    go_ret
    exact ⟨rfl, (by repeat (first | with_reducible exact Ext.refl _ | with_reducible assumption | with_reducible apply Ext.alloc | with_reducible apply Ext.drew | with_reducible apply Ext.drewN | (with_reducible refine Ext.set' ?_ (by first | omega | (simp only [World.size_alloc, World.size_setCell]; omega))) | (with_reducible refine Ext.trans ?_ (by with_reducible assumption)) | (with_reducible refine Ext.only ?_ (by with_reducible assumption) (by omega))))⟩

set_option maxHeartbeats 4000000 in
theorem numbers_c (v : Value) (n y : Int) (l : List Int) (w : World) (h0 : 0 ≤ n) (h1 : n ≤ 4294967295) (hv : Bs w v l) :
    Calls Try.prog 4 #[.int .u32 n, .int .i64 y, v] w fun e w' => e = .returned (.bool true) ∧ Ext w w' := by
  have hv' := hv
  obtain ⟨A, bl, o, c, rfl, hlc, hrow, hb⟩ := hv'
  by_cases h3 : l.length > 200
  · go_enter Try.func4, Try.ntmps4
    go_wp2_with fail
    refine (live_c _).mono ?_
    rintro e w1 ⟨rfl, k1⟩
    go_wp2_with fail
    go_ret
    exact ⟨rfl, (by repeat (first | with_reducible exact Ext.refl _ | with_reducible assumption | with_reducible apply Ext.alloc | with_reducible apply Ext.drew | with_reducible apply Ext.drewN | (with_reducible refine Ext.set' ?_ (by first | omega | (simp only [World.size_alloc, World.size_setCell]; omega))) | (with_reducible refine Ext.trans ?_ (by with_reducible assumption)) | (with_reducible refine Ext.only ?_ (by with_reducible assumption) (by omega))))⟩
  · have s1 := of_same n y
    obtain ⟨O, hO⟩ : ∃ O, Is (ofL (min y 32).toNat n []) O := ⟨_, Is.refl _⟩
    have hO' : Is (rofL n y 32 []) O := Is.mk (by rw [← s1]; exact hO.eq)
    have hOb : Byt O := by rw [← hO.eq]; exact ofL_byt _ _
    have hN := Is.mk (num_of n h0 h1)
    have hOl : (ofL 32 n []).length = 32 := by rw [ofL_is, List.append_nil, bitsDown_len]
    have HOL := hid hOl
    have h32b := ofL_byt 32 n
    clear s1 hOl
    obtain ⟨L, hL⟩ : ∃ L, Is (ofL 32 n []) L := ⟨_, Is.refl _⟩
    rw [hL.eq] at hN HOL h32b
    go_enter Try.func4, Try.ntmps4
    go_wp2_with fail
    refine (of_c n y _ h0 h1).mono ?_
    rintro e w1 ⟨v1, rfl, o1, k1⟩
    rw [hO.eq] at o1
    have b1 : Bs w1 v1 O := Bs.own o1 hOb
    go_wp2_with fail
    refine (num_c _ _ _ (hv.ext k1)).mono ?_
    rintro e w2 ⟨rfl, k2⟩
    by_cases h32 : l.length > 32
    · rw [if_pos h32, if_pos h32]
      go_wp2_with fail
      refine (rof_c n y _ h0 h1).mono ?_
      rintro e w3 ⟨v3, rfl, o3, k3⟩
      rw [hO'.eq] at o3
      have b3 : Bs w3 v3 O := Bs.own o3 hOb
      go_wp2_with fail
      refine (same_c _ _ _ _ _ (b1.ext (by repeat (first | with_reducible exact Ext.refl _ | with_reducible assumption | with_reducible apply Ext.alloc | with_reducible apply Ext.drew | with_reducible apply Ext.drewN | (with_reducible refine Ext.set' ?_ (by first | omega | (simp only [World.size_alloc, World.size_setCell]; omega))) | (with_reducible refine Ext.trans ?_ (by with_reducible assumption)) | (with_reducible refine Ext.only ?_ (by with_reducible assumption) (by omega))))) b3).mono ?_
      rintro e w4 ⟨rfl, k4⟩
      rw [beq_self_eq_true]
      go_wp2_with fail
      refine (live_c _).mono ?_
      rintro e w5 ⟨rfl, k5⟩
      go_wp2_with fail
      go_ret
      exact ⟨rfl, (by repeat (first | with_reducible exact Ext.refl _ | with_reducible assumption | with_reducible apply Ext.alloc | with_reducible apply Ext.drew | with_reducible apply Ext.drewN | (with_reducible refine Ext.set' ?_ (by first | omega | (simp only [World.size_alloc, World.size_setCell]; omega))) | (with_reducible refine Ext.trans ?_ (by with_reducible assumption)) | (with_reducible refine Ext.only ?_ (by with_reducible assumption) (by omega))))⟩
    · rw [if_neg h32, if_neg h32]
      have hs := num_same l (by omega)
      obtain ⟨M, hM⟩ : ∃ M, Is (numL 0 l) M := ⟨_, Is.refl _⟩
      have hM' : Is (rnumL 0 l) M := Is.mk (by rw [← hs]; exact hM.eq)
      rw [hM.eq]
      clear hs
      go_wp2_with fail
      refine (rof_c n y _ h0 h1).mono ?_
      rintro e w3 ⟨v3, rfl, o3, k3⟩
      rw [hO'.eq] at o3
      have b3 : Bs w3 v3 O := Bs.own o3 hOb
      go_wp2_with fail
      refine (same_c _ _ _ _ _ (b1.ext (by repeat (first | with_reducible exact Ext.refl _ | with_reducible assumption | with_reducible apply Ext.alloc | with_reducible apply Ext.drew | with_reducible apply Ext.drewN | (with_reducible refine Ext.set' ?_ (by first | omega | (simp only [World.size_alloc, World.size_setCell]; omega))) | (with_reducible refine Ext.trans ?_ (by with_reducible assumption)) | (with_reducible refine Ext.only ?_ (by with_reducible assumption) (by omega))))) b3).mono ?_
      rintro e w4 ⟨rfl, k4⟩
      rw [beq_self_eq_true]
      go_wp2_with fail
      refine (of_c n 32 _ h0 h1).mono ?_
      rintro e w5 ⟨v5, rfl, o5, k5⟩
      rw [show (min (32 : Int) 32).toNat = 32 from rfl, hL.eq] at o5
      have b5 : Bs w5 v5 L := Bs.own o5 h32b
      go_wp2_with fail
      refine (num_c _ _ _ b5).mono ?_
      rintro e w6 ⟨rfl, k6⟩
      rw [if_neg (by rw [HOL.out]; decide), if_neg (by rw [HOL.out]; decide), hN.eq]
      go_wp2_with fail
      refine (live_c _).mono ?_
      rintro e w7 ⟨rfl, k7⟩
      go_wp2_with fail
      refine (rnum_c _ _ _ (hv.ext (by repeat (first | with_reducible exact Ext.refl _ | with_reducible assumption | with_reducible apply Ext.alloc | with_reducible apply Ext.drew | with_reducible apply Ext.drewN | (with_reducible refine Ext.set' ?_ (by first | omega | (simp only [World.size_alloc, World.size_setCell]; omega))) | (with_reducible refine Ext.trans ?_ (by with_reducible assumption)) | (with_reducible refine Ext.only ?_ (by with_reducible assumption) (by omega))))) (by omega)).mono ?_
      rintro e w8 ⟨rfl, k8⟩
      rw [hM'.eq]
      go_wp2_with fail
      go_ret
      exact ⟨rfl, (by repeat (first | with_reducible exact Ext.refl _ | with_reducible assumption | with_reducible apply Ext.alloc | with_reducible apply Ext.drew | with_reducible apply Ext.drewN | (with_reducible refine Ext.set' ?_ (by first | omega | (simp only [World.size_alloc, World.size_setCell]; omega))) | (with_reducible refine Ext.trans ?_ (by with_reducible assumption)) | (with_reducible refine Ext.only ?_ (by with_reducible assumption) (by omega))))⟩

theorem mayL_snoc : ∀ (l : List Int) (x : Int), mayL (l ++ [x]) = (mayL l && (x == 48 || x == 49))
  | [], x => by simp [mayL]
  | y :: t, x => by simp [mayL, mayL_snoc t x, Bool.and_assoc]

set_option maxHeartbeats 8000000 in
theorem texts_c (v : Value) (l : List Int) (s : ByteArray) (w : World) (hv : Bs w v l) (hs : s.size ≤ reachBytes) :
    Calls Try.prog 3 #[v, .string s] w fun e w' => e = .returned (.bool true) ∧ Ext w w' := by
  have hv' := hv
  obtain ⟨A, bl, o, c, rfl, hlc, hrow, hb⟩ := hv'
  unfold reachBytes at hs
  have hcase : decide (300 < (l.length : Int)) = true ∨ (decide (300 < (l.length : Int)) = false ∧ decide (300 < (s.size : Int)) = true) ∨ (l.length ≤ 300 ∧ s.size ≤ 300) := by
    by_cases h1 : l.length > 300
    · exact .inl (by simp; omega)
    · by_cases h2 : s.size > 300
      · exact .inr (.inl ⟨by simp; omega, by simp; omega⟩)
      · exact .inr (.inr ⟨by omega, by omega⟩)
  rcases hcase with d | ⟨d, d2⟩ | ⟨hl3, hs3⟩
  · go_enter Try.func3, Try.ntmps3
    go_wp2_with fail
    refine (live_c _).mono ?_
    rintro e w1 ⟨rfl, k1⟩
    go_wp2_with fail
    go_ret
    exact ⟨rfl, (by repeat (first | with_reducible exact Ext.refl _ | with_reducible assumption | with_reducible apply Ext.alloc | with_reducible apply Ext.drew | with_reducible apply Ext.drewN | (with_reducible refine Ext.set' ?_ (by first | omega | (simp only [World.size_alloc, World.size_setCell]; omega))) | (with_reducible refine Ext.trans ?_ (by with_reducible assumption)) | (with_reducible refine Ext.only ?_ (by with_reducible assumption) (by omega))))⟩
  · go_enter Try.func3, Try.ntmps3
    go_wp2_with fail
    refine (live_c _).mono ?_
    rintro e w1 ⟨rfl, k1⟩
    go_wp2_with fail
    go_ret
    exact ⟨rfl, (by repeat (first | with_reducible exact Ext.refl _ | with_reducible assumption | with_reducible apply Ext.alloc | with_reducible apply Ext.drew | with_reducible apply Ext.drewN | (with_reducible refine Ext.set' ?_ (by first | omega | (simp only [World.size_alloc, World.size_setCell]; omega))) | (with_reducible refine Ext.trans ?_ (by with_reducible assumption)) | (with_reducible refine Ext.only ?_ (by with_reducible assumption) (by omega))))⟩
  · have d1 : decide (300 < (l.length : Int)) = false := by simp; omega
    have d2 : decide (300 < (s.size : Int)) = false := by simp; omega
    obtain ⟨T, hT⟩ : ∃ T, Is (⟨(textV l).toArray⟩ : ByteArray) T := ⟨_, Is.refl _⟩
    have hsz : T.size = l.length := by rw [← hT.eq]; simp [ByteArray.size, textV]
    have hp := parse_text l []
    have hp' : Is (parseL [] (sb T)) (plainV l, 0) := Is.mk (by rw [← hT.eq]; simpa [sb] using hp)
    have hTs : T.size ≤ 140737488355000 := by omega
    have HSZ := hid hsz
    obtain ⟨Q, hQ⟩ : ∃ Q, Is (parseL [] (sb s)) Q := ⟨_, Is.refl _⟩
    have hQb : Byt Q.1 := by rw [← hQ.eq]; exact parseL_byt _ _ Byt.nil
    clear hp hsz
    go_enter Try.func3, Try.ntmps3
    go_wp2_with fail
    refine (text_c _ _ _ hv (by omega)).mono ?_
    rintro e w1 ⟨rfl, k1⟩
    rw [hT.eq]
    go_wp2_with fail
    refine (parse_c _ _ hTs).mono ?_
    rintro e w2 ⟨v2, rfl, o2, k2⟩
    rw [hp'.eq] at o2 ⊢
    have b2 : Bs w2 v2 (plainV l) := Bs.own o2 (plainV_byt l)
    go_wp2_with fail
    refine (parse_c _ _ (by omega)).mono ?_
    rintro e w3 ⟨v3, rfl, o3, k3⟩
    rw [hQ.eq] at o3 ⊢
    have b3 : Bs w3 v3 Q.1 := Bs.own o3 hQb
    go_wp2_with fail
    go_loopg [9, 10] s.size (fun k v9 v10 wr => ∃ i : Nat, i + k = s.size ∧ v10 = .int .i64 i ∧ v9 = .bool (mayL ((sb s).take i)) ∧ Ext w3 wr)
    case atStart => exact ⟨0, by omega, rfl, rfl, (by repeat (first | with_reducible exact Ext.refl _ | with_reducible assumption | with_reducible apply Ext.alloc | with_reducible apply Ext.drew | with_reducible apply Ext.drewN | (with_reducible refine Ext.set' ?_ (by first | omega | (simp only [World.size_alloc, World.size_setCell]; omega))) | (with_reducible refine Ext.trans ?_ (by with_reducible assumption)) | (with_reducible refine Ext.only ?_ (by with_reducible assumption) (by omega))))⟩
    case round =>
      obtain ⟨i, hik, rfl, rfl, K⟩ := hrel
      by_cases hlt : i < s.size
      · have i0 : (0 : Int) ≤ (i : Int) := by omega
        have i1 : (i : Int) < (s.size : Int) := by omega
        have hn : mayL ((sb s).take (i + 1)) = (mayL ((sb s).take i) && ((s[i].toNat : Int) == 48 || (s[i].toNat : Int) == 49)) := by
          rw [List.take_add_one, List.getElem?_eq_getElem (by rw [sb_len]; exact hlt), Option.toList_some, mayL_snoc]
          congr 1
          simp [sb]
          rfl
        have HN := hid hn
        clear hn
        generalize mayL ((sb s).take i) = m at *
        cases m
        · go_wp2_with fail
          go_roundg (gk - 1)
          case rel => exact ⟨i + 1, by omega, by go_num, by rw [HN.out]; rfl, (by repeat (first | with_reducible exact Ext.refl _ | with_reducible assumption | with_reducible apply Ext.alloc | with_reducible apply Ext.drew | with_reducible apply Ext.drewN | (with_reducible refine Ext.set' ?_ (by first | omega | (simp only [World.size_alloc, World.size_setCell]; omega))) | (with_reducible refine Ext.trans ?_ (by with_reducible assumption)) | (with_reducible refine Ext.only ?_ (by with_reducible assumption) (by omega))))⟩
          case measure => omega
        · by_cases e48 : (s[i].toNat : Int) = 48
          · have hn2 := HN.out
            rw [e48] at hn2
            have HN2 := hid hn2
            clear hn2
            go_wp2_with fail
            go_roundg (gk - 1)
            case rel => exact ⟨i + 1, by omega, by go_num, by rw [HN2.out]; rfl, (by repeat (first | with_reducible exact Ext.refl _ | with_reducible assumption | with_reducible apply Ext.alloc | with_reducible apply Ext.drew | with_reducible apply Ext.drewN | (with_reducible refine Ext.set' ?_ (by first | omega | (simp only [World.size_alloc, World.size_setCell]; omega))) | (with_reducible refine Ext.trans ?_ (by with_reducible assumption)) | (with_reducible refine Ext.only ?_ (by with_reducible assumption) (by omega))))⟩
            case measure => omega
          · have dn : ((s[i].toNat : Int) == 48) = false := beq_eq_false_iff_ne.2 e48
            have hn2 := HN.out
            rw [dn, Bool.false_or, Bool.true_and] at hn2
            have HN2 := hid hn2
            clear hn2 e48
            go_wp2_with fail
            go_roundg (gk - 1)
            case rel => exact ⟨i + 1, by omega, by go_num, by rw [HN2.out], (by repeat (first | with_reducible exact Ext.refl _ | with_reducible assumption | with_reducible apply Ext.alloc | with_reducible apply Ext.drew | with_reducible apply Ext.drewN | (with_reducible refine Ext.set' ?_ (by first | omega | (simp only [World.size_alloc, World.size_setCell]; omega))) | (with_reducible refine Ext.trans ?_ (by with_reducible assumption)) | (with_reducible refine Ext.only ?_ (by with_reducible assumption) (by omega))))⟩
            case measure => omega
      · have hi : i = s.size := by omega
        rw [hi, List.take_of_length_le (by rw [sb_len]; omega)]
        have hrt : Is (⟨(textV l).toArray⟩ : ByteArray) T := hT
        obtain ⟨m, hm⟩ : ∃ m, Is (mayL (sb s)) m := ⟨_, Is.refl _⟩
        have hQ2 : Is Q (if m then ((sb s).map (· - 48), 0) else ([], 4)) := by
          rw [← hm.eq]
          refine Is.mk (hQ.eq.symm.trans ?_)
          cases h : mayL (sb s)
          · exact parse_no _ _ h
          · exact parse_yes _ [] h
        have hback : m = true → Is (⟨(textV ((sb s).map (· - 48))).toArray⟩ : ByteArray) s := fun h => by
          have h2 := text_back s.data.toList (by rw [← hm.eq] at h; exact h)
          exact Is.mk (by unfold sb; rw [h2, Array.toArray_toList])
        have hback := hid hback
        rw [hm.eq]
        clear hi hlt hQ hm
        go_wp2_with fail
        refine (text_c _ _ _ (hv.ext (by repeat (first | with_reducible exact Ext.refl _ | with_reducible assumption | with_reducible apply Ext.alloc | with_reducible apply Ext.drew | with_reducible apply Ext.drewN | (with_reducible refine Ext.set' ?_ (by first | omega | (simp only [World.size_alloc, World.size_setCell]; omega))) | (with_reducible refine Ext.trans ?_ (by with_reducible assumption)) | (with_reducible refine Ext.only ?_ (by with_reducible assumption) (by omega))))) (by omega)).mono ?_
        rintro e w4 ⟨rfl, k4⟩
        rw [hT.eq]
        go_wp2_with fail
        refine (rtext_c _ _ _ (hv.ext (by repeat (first | with_reducible exact Ext.refl _ | with_reducible assumption | with_reducible apply Ext.alloc | with_reducible apply Ext.drew | with_reducible apply Ext.drewN | (with_reducible refine Ext.set' ?_ (by first | omega | (simp only [World.size_alloc, World.size_setCell]; omega))) | (with_reducible refine Ext.trans ?_ (by with_reducible assumption)) | (with_reducible refine Ext.only ?_ (by with_reducible assumption) (by omega))))) (by omega)).mono ?_
        rintro e w5 ⟨rfl, k5⟩
        rw [hT.eq]
        go_wp2_with fail
        refine (plain_c _ _ _ (hv.ext (by repeat (first | with_reducible exact Ext.refl _ | with_reducible assumption | with_reducible apply Ext.alloc | with_reducible apply Ext.drew | with_reducible apply Ext.drewN | (with_reducible refine Ext.set' ?_ (by first | omega | (simp only [World.size_alloc, World.size_setCell]; omega))) | (with_reducible refine Ext.trans ?_ (by with_reducible assumption)) | (with_reducible refine Ext.only ?_ (by with_reducible assumption) (by omega))))) (by omega)).mono ?_
        rintro e w6 ⟨v6, rfl, o6, k6⟩
        have b6 : Bs w6 v6 (plainV l) := Bs.own o6 (plainV_byt l)
        go_wp2_with fail
        refine (same_c _ _ _ _ _ (b2.ext (by repeat (first | with_reducible exact Ext.refl _ | with_reducible assumption | with_reducible apply Ext.alloc | with_reducible apply Ext.drew | with_reducible apply Ext.drewN | (with_reducible refine Ext.set' ?_ (by first | omega | (simp only [World.size_alloc, World.size_setCell]; omega))) | (with_reducible refine Ext.trans ?_ (by with_reducible assumption)) | (with_reducible refine Ext.only ?_ (by with_reducible assumption) (by omega))))) b6).mono ?_
        rintro e w7 ⟨rfl, k7⟩
        rw [beq_self_eq_true]
        cases m
        · have hq := hQ2.eq
          rw [if_neg (by decide)] at hq
          subst hq
          obtain ⟨A3, bl3, o3', c3, rfl, _, _, _⟩ := b3
          go_wp2_with fail
          refine (live_c _).mono ?_
          rintro e w8 ⟨rfl, k8⟩
          go_wp2_with fail
          go_ret
          exact ⟨rfl, (by repeat (first | with_reducible exact Ext.refl _ | with_reducible assumption | with_reducible apply Ext.alloc | with_reducible apply Ext.drew | with_reducible apply Ext.drewN | (with_reducible refine Ext.set' ?_ (by first | omega | (simp only [World.size_alloc, World.size_setCell]; omega))) | (with_reducible refine Ext.trans ?_ (by with_reducible assumption)) | (with_reducible refine Ext.only ?_ (by with_reducible assumption) (by omega))))⟩
        · have hq := hQ2.eq
          rw [if_pos rfl] at hq
          have hql : Q.1.length ≤ 140737488351232 := by rw [hq]; simp only [List.length_map, sb_len]; omega
          have hq2 : Is Q.2 0 := by rw [hq]; exact Is.refl _
          have hq1 : Is (⟨(textV Q.1).toArray⟩ : ByteArray) s := by rw [hq]; exact hback.out rfl
          clear hq hQ2
          obtain ⟨Q1, Q2⟩ := Q
          simp only at hql hq2 hq1 b3
          obtain rfl := hq2.eq
          go_wp2_with fail
          refine (live_c _).mono ?_
          rintro e w8 ⟨rfl, k8⟩
          go_wp2_with fail
          refine (text_c _ _ _ (b3.ext (by repeat (first | with_reducible exact Ext.refl _ | with_reducible assumption | with_reducible apply Ext.alloc | with_reducible apply Ext.drew | with_reducible apply Ext.drewN | (with_reducible refine Ext.set' ?_ (by first | omega | (simp only [World.size_alloc, World.size_setCell]; omega))) | (with_reducible refine Ext.trans ?_ (by with_reducible assumption)) | (with_reducible refine Ext.only ?_ (by with_reducible assumption) (by omega))))) hql).mono ?_
          rintro e w9 ⟨rfl, k9⟩
          rw [hq1.eq]
          go_wp2_with fail
          go_ret
          exact ⟨rfl, (by repeat (first | with_reducible exact Ext.refl _ | with_reducible assumption | with_reducible apply Ext.alloc | with_reducible apply Ext.drew | with_reducible apply Ext.drewN | (with_reducible refine Ext.set' ?_ (by first | omega | (simp only [World.size_alloc, World.size_setCell]; omega))) | (with_reducible refine Ext.trans ?_ (by with_reducible assumption)) | (with_reducible refine Ext.only ?_ (by with_reducible assumption) (by omega))))⟩

end Go.Proofs.Ytobllheaadmbgaa
