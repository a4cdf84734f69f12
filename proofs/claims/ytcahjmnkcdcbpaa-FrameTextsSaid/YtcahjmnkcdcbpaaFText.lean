/- Package frame: Text. -/
import Derived.Test.YtcahjmnkcdcbpaaStr
import Derived.Test.YtcahjmnkcdcbpaaFrame3
set_option linter.unusedSimpArgs false
set_option linter.unusedVariables false
set_option linter.unnecessarySimpa false
namespace Go.Proofs.Ytcahjmnkcdcbpaa
open Go.RowKit Go.Proofs.YtcahjmnkcdcbpaaW.PrintWords
attribute [local go_sem] max2_max min2_min max_of_two min_of_two
attribute [local go_sem ↓] run_eq_fr

/-- The sign of a number below 16. -/
def sgnI (n : Int) : Int := if n < 10 then 48 + n else 55 + n
def headT (id : Int) : List Int := [sgnI (id / 256), sgnI (id / 16 % 16), sgnI (id % 16), 35]
def tailT : List Int → List Int
  | [] => []
  | x :: t => sgnI (x / 16) :: sgnI (x % 16) :: tailT t
def Fr.text (f : Fr) : List Int := headT f.id ++ if f.rtr then [82, sgnI f.len] else tailT (f.data.take f.len.toNat)

theorem sgn_at (q : Nat) (h : q < (⟨#[48, 49, 50, 51, 52, 53, 54, 55, 56, 57, 65, 66, 67, 68, 69, 70]⟩ : ByteArray).size) : (((⟨#[48, 49, 50, 51, 52, 53, 54, 55, 56, 57, 65, 66, 67, 68, 69, 70]⟩ : ByteArray)[q]'h).toNat : Int) = sgnI q := by
  have : ∀ q : Fin 16, (((⟨#[48, 49, 50, 51, 52, 53, 54, 55, 56, 57, 65, 66, 67, 68, 69, 70]⟩ : ByteArray)[q.val]'(q.isLt)).toNat : Int) = sgnI q.val := by decide +kernel
  exact this ⟨q, h⟩
theorem sgn_byt {q : Int} (h0 : 0 ≤ q) (h1 : q < 16) : 0 ≤ sgnI q ∧ sgnI q ≤ 255 := by unfold sgnI; split <;> omega
theorem and15 {n : Nat} (h : n ≤ 2047) : Go.bits .and .i64 (n : Int) 15 = ((n % 16 : Nat) : Int) := by
  have : ∀ q : Fin 2048, Go.bits .and .i64 ((q.val : Nat) : Int) 15 = ((q.val % 16 : Nat) : Int) := by decide +kernel
  exact this ⟨n, by omega⟩
theorem and15u {n : Nat} (h : n ≤ 255) : Go.bits .and .u8 (n : Int) 15 = ((n % 16 : Nat) : Int) := by
  have : ∀ q : Fin 256, Go.bits .and .u8 ((q.val : Nat) : Int) 15 = ((q.val % 16 : Nat) : Int) := by decide +kernel
  exact this ⟨n, by omega⟩
theorem tailT_snoc : ∀ (l : List Int) (x : Int), tailT (l ++ [x]) = tailT l ++ [sgnI (x / 16), sgnI (x % 16)]
  | [], x => rfl
  | y :: t, x => by simp [tailT, tailT_snoc t x]
theorem tailT_len : ∀ l : List Int, (tailT l).length = 2 * l.length
  | [] => rfl
  | y :: t => by simp [tailT, tailT_len t]; omega
theorem tailT_byt : ∀ {l : List Int}, Byt l → Byt (tailT l)
  | [], _ => Byt.nil
  | y :: t, h => by
    have hy := h y (by simp)
    have ht : Byt (tailT t) := tailT_byt (fun x hx => h x (by simp [hx]))
    intro x hx
    simp only [tailT, List.mem_cons] at hx
    rcases hx with rfl | rfl | hx
    · exact sgn_byt (by omega) (by omega)
    · exact sgn_byt (by omega) (by omega)
    · exact ht x hx
theorem headT_byt {n : Int} (h0 : 0 ≤ n) (h1 : n ≤ 2047) : Byt (headT n) := by
  intro x hx
  simp only [headT, List.mem_cons, List.not_mem_nil, or_false] at hx
  rcases hx with rfl | rfl | rfl | rfl
  · exact sgn_byt (by omega) (by omega)
  · exact sgn_byt (by omega) (by omega)
  · exact sgn_byt (by omega) (by omega)
  · omega
theorem chk_bounds {f : Fr} (h : f.chk = 0) : 0 ≤ f.id ∧ f.id ≤ 2047 ∧ 0 ≤ f.len ∧ f.len ≤ 8 := by
  unfold Fr.chk at h
  split at h
  · omega
  · split at h
    · omega
    · omega
attribute [local go_sem] sgn_at
theorem byt_app {a b : List Int} (ha : Byt a) (hb : Byt b) : Byt (a ++ b) := fun x hx => (List.mem_append.1 hx).elim (ha x) (hb x)

set_option maxHeartbeats 8000000 in
theorem text_c (id : Int) (rtr : Bool) (len d0 d1 d2 d3 d4 d5 d6 d7 : Int) (w : World) (hd : Byt [d0, d1, d2, d3, d4, d5, d6, d7]) :
    Calls Try.prog 12 #[.agg #[.int .i64 id, .bool rtr, .int .i64 len, .int .u8 d0, .int .u8 d1, .int .u8 d2, .int .u8 d3, .int .u8 d4, .int .u8 d5, .int .u8 d6, .int .u8 d7]] w fun e w' => e = .returned (.tuple #[.string (if Fr.chk (⟨id, rtr, len, d0, d1, d2, d3, d4, d5, d6, d7⟩ : Fr) = 0 then mkS (Fr.text (⟨id, rtr, len, d0, d1, d2, d3, d4, d5, d6, d7⟩ : Fr)) else ⟨#[]⟩), .int .i64 (Fr.chk (⟨id, rtr, len, d0, d1, d2, d3, d4, d5, d6, d7⟩ : Fr))]) ∧ Ext w w' := by
  have CK := hid (fun w => check_c id rtr len d0 d1 d2 d3 d4 d5 d6 d7 w)
  by_cases hm : Fr.chk (⟨id, rtr, len, d0, d1, d2, d3, d4, d5, d6, d7⟩ : Fr) = 0
  · rw [if_pos hm]
    obtain ⟨i0, i1, l0, l1⟩ := chk_bounds hm
    simp only at i0 i1 l0 l1
    rw [hm] at CK ⊢
    clear hm
    obtain ⟨n, rfl⟩ := Int.eq_ofNat_of_zero_le i0
    obtain ⟨k, rfl⟩ := Int.eq_ofNat_of_zero_le l0
    have hT : Fr.text ⟨n, rtr, k, d0, d1, d2, d3, d4, d5, d6, d7⟩ = headT n ++ if rtr then [82, sgnI k] else tailT ([d0, d1, d2, d3, d4, d5, d6, d7].take k) := by
      unfold Fr.text; rfl
    rw [hT]
    clear hT
    have hHT : headT n = [sgnI ((n / 256 : Nat) : Int), sgnI ((n / 16 % 16 : Nat) : Int), sgnI ((n % 16 : Nat) : Int), 35] := by
      rfl
    have hHb := headT_byt i0 i1
    have HB := hid (fun w' (k' : Ext (w.alloc (.cells #[.int .i64 n, .bool rtr, .int .i64 k, .int .u8 d0, .int .u8 d1, .int .u8 d2, .int .u8 d3, .int .u8 d4, .int .u8 d5, .int .u8 d6, .int .u8 d7] FT)) w') => Ext.blk k' (Blk.new w #[.int .i64 n, .bool rtr, .int .i64 k, .int .u8 d0, .int .u8 d1, .int .u8 d2, .int .u8 d3, .int .u8 d4, .int .u8 d5, .int .u8 d6, .int .u8 d7] FT))
    have n1 : n ≤ 2047 := by omega
    have k8 : k ≤ 8 := by omega
    have a0 : Go.bits .and .i64 ((n : Int) / 256) 15 = ((n / 256 : Nat) : Int) := by
      have := and15 (n := n / 256) (by omega)
      rw [Nat.mod_eq_of_lt (by omega)] at this
      exact this
    have a1 : Go.bits .and .i64 ((n : Int) / 16) 15 = ((n / 16 % 16 : Nat) : Int) := by
      exact and15 (n := n / 16) (by omega)
    have a2 : Go.bits .and .i64 (n : Int) 15 = ((n % 16 : Nat) : Int) := and15 n1
    have q0 : n / 256 < 16 := by omega
    have q1 : n / 16 % 16 < 16 := by omega
    have q2 : n % 16 < 16 := by omega
    rw [hHT] at hHb ⊢
    clear hHT
    generalize n / 256 = x0 at *
    generalize n / 16 % 16 = x1 at *
    generalize n % 16 = x2 at *
    have AA := hid (And.intro a0 (And.intro a1 a2))
    have QQ := hid (And.intro q0 (And.intro q1 q2))
    have HHb := hid hHb
    have HD := hid hd
    clear a0 a1 a2 q0 q1 q2 hHb hd
    go_enter Try.func12, Try.ntmps12
    go_wp2_with fail
    (with_reducible refine (CK.out _).mono ?_); rintro e w1 ⟨rfl, k1⟩
    have b1 := HB.out w1 (by repeat (first | with_reducible exact Ext.refl _ | with_reducible assumption | with_reducible apply Ext.alloc | with_reducible apply Ext.drew | with_reducible apply Ext.drewN | (with_reducible refine Ext.set' ?_ (by first | omega | (simp only [World.size_alloc, World.size_setCell]; omega))) | (with_reducible refine Ext.trans ?_ (by with_reducible assumption)) | (with_reducible refine Ext.only ?_ (by with_reducible assumption) (by omega))))
    have KE : Ext w w1 := (by repeat (first | with_reducible exact Ext.refl _ | with_reducible assumption | with_reducible apply Ext.alloc | with_reducible apply Ext.drew | with_reducible apply Ext.drewN | (with_reducible refine Ext.set' ?_ (by first | omega | (simp only [World.size_alloc, World.size_setCell]; omega))) | (with_reducible refine Ext.trans ?_ (by with_reducible assumption)) | (with_reducible refine Ext.only ?_ (by with_reducible assumption) (by omega))))
    clear k1 CK HB
    go_wp2_with fail
    have B0 := Bd.new w1
    go_loopg [6] 3 (fun g u6 wr => ∃ i : Nat, i + g = 3 ∧ u6 = .int .i64 (8 - 4 * (i : Int)) ∧ Bd w1 w1.heap.size ([sgnI x0, sgnI x1, sgnI x2, 35].take i) wr)
    case atStart => exact ⟨0, rfl, rfl, B0⟩
    case round =>
      clear B0
      obtain ⟨i, hig, hu, HBd⟩ := hrel
      have b2 := HBd.ext.blk b1
      obtain ⟨pc0, pc1, pc2, pc3, pc4, pc5, pc6, pc7, pc8, pc9, pc10, pf0, pf1, pf2, pf3, pf4, pf5, pf6, pf7, pf8, pf9, pf10⟩ := Blk.cells11 b2
      clear pf0 pf1 pf2 pf3 pf4 pf5 pf6 pf7 pf8 pf9 pf10
      obtain ⟨a0, a1, a2⟩ := AA.out
      obtain ⟨q0, q1, q2⟩ := QQ.out
      rcases (by omega : i = 0 ∨ i = 1 ∨ i = 2 ∨ i = 3) with rfl | rfl | rfl | rfl
      · obtain rfl : u6 = .int .i64 8 := hu
        clear a1 a2 q1 q2
        go_wp2_with fail
        (with_reducible refine (Bd.write HBd _ (by simp)).mono ?_); rintro e w2 ⟨rfl, HB2⟩
        go_wp2_with fail
        go_roundg (gk - 1)
        case rel => exact ⟨1, by omega, by go_num, HB2⟩
        case measure => omega
      · obtain rfl : u6 = .int .i64 4 := hu
        clear a0 a2 q0 q2
        go_wp2_with fail
        (with_reducible refine (Bd.write HBd _ (by simp)).mono ?_); rintro e w2 ⟨rfl, HB2⟩
        go_wp2_with fail
        go_roundg (gk - 1)
        case rel => exact ⟨2, by omega, by go_num, HB2⟩
        case measure => omega
      · obtain rfl : u6 = .int .i64 0 := hu
        clear a0 a1 q0 q1
        go_wp2_with fail
        (with_reducible refine (Bd.write HBd _ (by simp)).mono ?_); rintro e w2 ⟨rfl, HB2⟩
        go_wp2_with fail
        go_roundg (gk - 1)
        case rel => exact ⟨3, by omega, by go_num, HB2⟩
        case measure => omega
      · obtain rfl : u6 = .int .i64 (-4) := hu
        clear a0 a1 a2 q0 q1 q2 pc3 pc4 pc5 pc6 pc7 pc8 pc9 pc10
        go_wp2_with fail
        (with_reducible refine (Bd.write HBd 35 (by simp)).mono ?_); rintro e w2 ⟨rfl, HB2⟩
        have HB2 : Bd w1 w1.heap.size [sgnI x0, sgnI x1, sgnI x2, 35] w2 := HB2
        have b3 := HB2.ext.blk b1
        clear HBd b2 pc0 pc1 pc2
        obtain ⟨pc0, pc1, pc2, pc3, pc4, pc5, pc6, pc7, pc8, pc9, pc10, pf0, pf1, pf2, pf3, pf4, pf5, pf6, pf7, pf8, pf9, pf10⟩ := Blk.cells11 b3
        clear pf0 pf1 pf2 pf3 pf4 pf5 pf6 pf7 pf8 pf9 pf10
        cases rtr
        · simp only [Bool.false_eq_true, if_false]
          clear pc3 pc4 pc5 pc6 pc7 pc8 pc9 pc10
          have k0 : (k : Int) ≤ 8 := by omega
          go_wp2_with fail
          clear b3 pc0 pc1 pc2
          have HD8 : ∀ i : Nat, i < 8 → 0 ≤ [d0, d1, d2, d3, d4, d5, d6, d7].getD i 0 ∧ [d0, d1, d2, d3, d4, d5, d6, d7].getD i 0 ≤ 255 := fun i hi => HD.out _ (by rw [List.getD_eq_getElem?_getD, List.getElem?_eq_getElem (by simpa using hi)]; exact List.getElem_mem _)
          have HCELL := hid (fun (w' : World) (h : Blk w' w.heap.size #[.int .i64 n, .bool false, .int .i64 k, .int .u8 d0, .int .u8 d1, .int .u8 d2, .int .u8 d3, .int .u8 d4, .int .u8 d5, .int .u8 d6, .int .u8 d7] FT) (i : Nat) (hi : i < 8) => (Fr.cellAt (f := ⟨n, false, k, d0, d1, d2, d3, d4, d5, d6, d7⟩) h hi : w'.cell? ⟨w.heap.size, 3 + i, none⟩ = some (.int .u8 ([d0, d1, d2, d3, d4, d5, d6, d7].getD i 0))))
          have HDD := hid HD8
          have HSN : ∀ i : Nat, i < 8 → [d0, d1, d2, d3, d4, d5, d6, d7].take (i + 1) = [d0, d1, d2, d3, d4, d5, d6, d7].take i ++ [[d0, d1, d2, d3, d4, d5, d6, d7].getD i 0] := fun i hi => by
            rw [List.take_add_one, List.getElem?_eq_getElem (by simpa using hi), List.getD_eq_getElem?_getD, List.getElem?_eq_getElem (by simpa using hi)]
            rfl
          have HSN := hid HSN
          clear HD8
          go_loopg [8, 39] k (fun g u8 u39 wr => ∃ i : Nat, i + g = k ∧ u39 = .int .i64 i ∧ Bd w1 w1.heap.size ([sgnI x0, sgnI x1, sgnI x2, 35] ++ tailT ([d0, d1, d2, d3, d4, d5, d6, d7].take i)) wr)
          case atStart => exact ⟨0, by omega, rfl, HB2⟩
          case round =>
            clear HB2
            obtain ⟨i, hig2, rfl, HC⟩ := hrel
            have b4 := HC.ext.blk b1
            have hlen : ([sgnI x0, sgnI x1, sgnI x2, 35] ++ tailT ([d0, d1, d2, d3, d4, d5, d6, d7].take i)).length ≤ 100 := by
              rw [List.length_append, tailT_len, List.length_take]; simp only [List.length_cons, List.length_nil]; omega
            by_cases hlt : i < k
            · have e1 : decide ((i : Int) < (k : Int)) = true := by simpa using hlt
              have j0 : (0 : Int) ≤ (i : Int) := by omega
              have j1 : (i : Int) < (k : Int) := by omega
              have c0 : wr.cell? ⟨w.heap.size, 3 + i, none⟩ = some (.int .u8 ([d0, d1, d2, d3, d4, d5, d6, d7].getD i 0)) := HCELL.out _ b4 i (by omega)
              obtain ⟨y0, y1⟩ := HDD.out i (by omega)
              have hsn := HSN.out i (by omega)
              generalize [d0, d1, d2, d3, d4, d5, d6, d7].getD i 0 = x at *
              obtain ⟨xn, rfl⟩ := Int.eq_ofNat_of_zero_le y0
              obtain ⟨q, hq⟩ : ∃ q : Nat, (xn : Int) / 16 = (q : Int) := ⟨xn / 16, rfl⟩
              obtain ⟨r, hr⟩ : ∃ r : Nat, xn % 16 = r := ⟨_, rfl⟩
              have hr2 : Go.bits .and .u8 (xn : Int) 15 = (r : Int) := by rw [and15u (by omega), hr]
              have q16 : q < 16 := by omega
              have r16 : r < 16 := by omega
              have hsn2 : [sgnI x0, sgnI x1, sgnI x2, 35] ++ tailT ([d0, d1, d2, d3, d4, d5, d6, d7].take i) ++ [sgnI q] ++ [sgnI r] = [sgnI x0, sgnI x1, sgnI x2, 35] ++ tailT ([d0, d1, d2, d3, d4, d5, d6, d7].take (i + 1)) := by
                rw [hsn, tailT_snoc, hq, show (xn : Int) % 16 = (r : Int) by omega]
                simp only [List.append_assoc]
                rfl
              have HS2 := hid hsn2
              clear hsn hsn2 y0 y1
              generalize [sgnI x0, sgnI x1, sgnI x2, 35] ++ tailT ([d0, d1, d2, d3, d4, d5, d6, d7].take i) = L at *
              go_wp2_with fail
              (with_reducible refine (Bd.write HC _ (by omega)).mono ?_); rintro e w5 ⟨rfl, HC2⟩
              go_wp2_with fail
              have hl2 : (L ++ [sgnI q]).length ≤ 140737488355000 := by rw [List.length_append]; simp only [List.length_cons, List.length_nil]; omega
              (with_reducible refine (Bd.write HC2 _ hl2).mono ?_); rintro e w6 ⟨rfl, HC3⟩
              rw [HS2.out] at HC3
              go_wp2_with fail
              go_roundg (gk - 1)
              case rel => exact ⟨i + 1, by omega, by go_num, HC3⟩
              case measure => omega
            · obtain rfl : i = k := by omega
              have hby := byt_app HHb.out (tailT_byt (HD.out.take i))
              clear hlt hlen
              obtain ⟨L, hL⟩ : ∃ L, L = [sgnI x0, sgnI x1, sgnI x2, 35] ++ tailT ([d0, d1, d2, d3, d4, d5, d6, d7].take i) := ⟨_, rfl⟩
              rw [← hL] at HC hby
              have HL := hid hL
              clear hL
              go_wp2_with fail
              (with_reducible refine (Bd.string HC hby).mono ?_); rintro e w5 ⟨rfl, k5⟩
              go_wp2_with fail
              go_ret2
              have hL := HL.out
              subst hL
              exact ⟨rfl, (by repeat (first | with_reducible exact Ext.refl _ | with_reducible assumption | with_reducible apply Ext.alloc | with_reducible apply Ext.drew | with_reducible apply Ext.drewN | (with_reducible refine Ext.set' ?_ (by first | omega | (simp only [World.size_alloc, World.size_setCell]; omega))) | (with_reducible refine Ext.trans ?_ (by with_reducible assumption)) | (with_reducible refine Ext.only ?_ (by with_reducible assumption) (by omega))))⟩
        · simp only [if_true]
          clear pc3 pc4 pc5 pc6 pc7 pc8 pc9 pc10
          have k16 : k < 16 := by omega
          go_wp2_with fail
          (with_reducible refine (Bd.write HB2 82 (by simp)).mono ?_); rintro e w3 ⟨rfl, HB3⟩
          have b4 := HB3.ext.blk b1
          clear b3 pc0 pc1 pc2 HB2
          obtain ⟨pc0, pc1, pc2, pc3, pc4, pc5, pc6, pc7, pc8, pc9, pc10, pf0, pf1, pf2, pf3, pf4, pf5, pf6, pf7, pf8, pf9, pf10⟩ := Blk.cells11 b4
          clear pf0 pf1 pf2 pf3 pf4 pf5 pf6 pf7 pf8 pf9 pf10
          clear pc3 pc4 pc5 pc6 pc7 pc8 pc9 pc10
          go_wp2_with fail
          (with_reducible refine (Bd.write HB3 _ (by simp)).mono ?_); rintro e w4 ⟨rfl, HB4⟩
          go_wp2_with fail
          have hby := byt_app (byt_app HHb.out (show Byt [82] by intro x hx; simp at hx; omega)) (show Byt [sgnI (k : Int)] by intro x hx; simp at hx; subst hx; exact sgn_byt (by omega) (by omega))
          (with_reducible refine (Bd.string HB4 hby).mono ?_); rintro e w5 ⟨rfl, k5⟩
          go_wp2_with fail
          go_ret2
          exact ⟨rfl, (by repeat (first | with_reducible exact Ext.refl _ | with_reducible assumption | with_reducible apply Ext.alloc | with_reducible apply Ext.drew | with_reducible apply Ext.drewN | (with_reducible refine Ext.set' ?_ (by first | omega | (simp only [World.size_alloc, World.size_setCell]; omega))) | (with_reducible refine Ext.trans ?_ (by with_reducible assumption)) | (with_reducible refine Ext.only ?_ (by with_reducible assumption) (by omega))))⟩
  · rw [if_neg hm]
    have e0 : (Fr.chk (⟨id, rtr, len, d0, d1, d2, d3, d4, d5, d6, d7⟩ : Fr) != 0) = true := by simpa using hm
    generalize Fr.chk (⟨id, rtr, len, d0, d1, d2, d3, d4, d5, d6, d7⟩ : Fr) = m at *
    clear hm
    go_enter Try.func12, Try.ntmps12
    go_wp2_with fail
    (with_reducible refine (CK.out _).mono ?_); rintro e w1 ⟨rfl, k1⟩
    go_wp2_with fail
    go_ret2
    exact ⟨rfl, (by repeat (first | with_reducible exact Ext.refl _ | with_reducible assumption | with_reducible apply Ext.alloc | with_reducible apply Ext.drew | with_reducible apply Ext.drewN | (with_reducible refine Ext.set' ?_ (by first | omega | (simp only [World.size_alloc, World.size_setCell]; omega))) | (with_reducible refine Ext.trans ?_ (by with_reducible assumption)) | (with_reducible refine Ext.only ?_ (by with_reducible assumption) (by omega))))⟩

end Go.Proofs.Ytcahjmnkcdcbpaa
