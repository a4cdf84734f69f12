/- Package frame: number, Parse. -/
import Derived.Test.YtcahjmnkcdcbpaaFText
import Derived.Lib.Bytealg
set_option linter.unusedSimpArgs false
set_option linter.unusedVariables false
set_option linter.unnecessarySimpa false
namespace Go.Proofs.Ytcahjmnkcdcbpaa
open Go.RowKit Go.Proofs.YtcahjmnkcdcbpaaW.PrintWords
attribute [local go_sem] max2_max min2_min max_of_two min_of_two
attribute [local go_sem ↓] run_eq_fr

/-- A sign's number; below 0: it is none. -/
def valI (c : Int) : Int := if 48 ≤ c ∧ c ≤ 57 then c - 48 else if 65 ≤ c ∧ c ≤ 70 then c - 55 else -1
theorem valI_lt (c : Int) : -1 ≤ valI c ∧ valI c < 16 := by unfold valI; split; omega; split <;> omega
theorem idx_val {c : Int} (h0 : 0 ≤ c) (h1 : c ≤ 255) : Lib.indexByte [48, 49, 50, 51, 52, 53, 54, 55, 56, 57, 65, 66, 67, 68, 69, 70] c.toNat.toUInt8 = valI c := by
  obtain ⟨q, rfl⟩ := Int.eq_ofNat_of_zero_le h0
  have : ∀ q : Fin 256, Lib.indexByte [48, 49, 50, 51, 52, 53, 54, 55, 56, 57, 65, 66, 67, 68, 69, 70] ((q.val : Nat) : Int).toNat.toUInt8 = valI ((q.val : Nat) : Int) := by decide +kernel
  exact this ⟨q, by omega⟩

theorem idx1 (s : ByteArray) (c : Int) (w : World) :
    Calls Try.prog 35 #[.string s, .int .u8 c] w fun e w' => e = .returned (.int .i64 (Lib.indexByte s.data.toList c.toNat.toUInt8)) ∧ w' = w := by
  go_enter Try.func35, Try.ntmps35
  go_wp2_with fail
  rw [run_callFunc_extern Try.func36 (by kernel_rfl) (by kernel_rfl) (by kernel_rfl) (e := Extern.BytealgIndexByte.indexByte) (by kernel_rfl), Lib.run_indexByteString]
  go_wp2_with fail
  go_ret
  exact ⟨rfl, rfl⟩
theorem idx_c (c : Int) (w : World) (h0 : 0 ≤ c) (h1 : c ≤ 255) :
    Calls Try.prog 33 #[.string ⟨#[48, 49, 50, 51, 52, 53, 54, 55, 56, 57, 65, 66, 67, 68, 69, 70]⟩, .int .u8 c] w fun e w' => e = .returned (.int .i64 (valI c)) ∧ w' = w := by
  have hv := idx_val h0 h1
  go_enter Try.func33, Try.ntmps33
  go_wp2_with fail
  (with_reducible refine (idx1 _ _ _).mono ?_); rintro e w1 ⟨rfl, rfl⟩
  rw [show (⟨#[48, 49, 50, 51, 52, 53, 54, 55, 56, 57, 65, 66, 67, 68, 69, 70]⟩ : ByteArray).data.toList = [48, 49, 50, 51, 52, 53, 54, 55, 56, 57, 65, 66, 67, 68, 69, 70] from rfl, hv]
  go_wp2_with fail
  go_ret
  exact ⟨rfl, rfl⟩

def numG : Int → List Int → Int × Bool
  | n, [] => (n, true)
  | n, c :: t => if valI c < 0 then (0, false) else numG (n * 16 + valI c) t
theorem or_step {n k : Int} (h0 : 0 ≤ n) (h1 : n ≤ 255) (k0 : 0 ≤ k) (k1 : k < 16) : Go.bits .or .i64 (n * 16) k = n * 16 + k := by
  obtain ⟨a, rfl⟩ := Int.eq_ofNat_of_zero_le h0
  obtain ⟨b, rfl⟩ := Int.eq_ofNat_of_zero_le k0
  have : ∀ p : Fin 256, ∀ q : Fin 16, Go.bits .or .i64 (((p.val : Nat) : Int) * 16) ((q.val : Nat) : Int) = ((p.val : Nat) : Int) * 16 + ((q.val : Nat) : Int) := by decide +kernel
  exact this ⟨a, by omega⟩ ⟨b, by omega⟩

set_option maxHeartbeats 2000000 in
theorem number_c (s : ByteArray) (w : World) (hs : s.size ≤ 3) :
    Calls Try.prog 26 #[.string s] w fun e w' => e = .returned (.tuple #[.int .i64 (numG 0 (sb s)).1, .bool (numG 0 (sb s)).2]) ∧ Ext w w' := by
  obtain ⟨R, hR⟩ : ∃ R, Is (numG 0 (sb s)) R := ⟨_, Is.refl _⟩
  rw [hR.eq]
  go_enter Try.func26, Try.ntmps26
  go_wp2_with fail
  go_loopg [4, 5, 6, 9] s.size (fun k u4 u5 u6 u9 wr => ∃ (i : Nat) (n : Int), i + k = s.size ∧ u9 = .int .i64 i ∧ u4 = .int .i64 n ∧ 0 ≤ n ∧ n < 16 ^ i ∧ Is (numG n ((sb s).drop i)) R ∧ Ext w wr)
  case atStart => exact ⟨0, 0, by omega, rfl, rfl, by omega, by decide, hR, (by repeat (first | with_reducible exact Ext.refl _ | with_reducible assumption | with_reducible apply Ext.alloc | with_reducible apply Ext.drew | with_reducible apply Ext.drewN | (with_reducible refine Ext.set' ?_ (by first | omega | (simp only [World.size_alloc, World.size_setCell]; omega))) | (with_reducible refine Ext.trans ?_ (by with_reducible assumption)) | (with_reducible refine Ext.only ?_ (by with_reducible assumption) (by omega))))⟩
  case round =>
    clear hR
    obtain ⟨i, n, hik, rfl, rfl, n0, n1, hr, K⟩ := hrel
    by_cases hlt : i < s.size
    · have hr' := hr
      rw [sb_drop s i hlt] at hr'
      simp only [numG] at hr'
      have d1 : decide ((i : Int) < (s.size : Int)) = true := by simpa using hlt
      have i0 : (0 : Int) ≤ (i : Int) := by omega
      have i1 : (i : Int) < (s.size : Int) := by omega
      have hb := sb_byt s ((s[i].toNat : Int)) (by rw [sb_at s hlt, List.getD_eq_getElem?_getD, List.getElem?_eq_getElem (by rw [sb_len]; exact hlt)]; exact List.getElem_mem _)
      have hv := valI_lt (s[i].toNat : Int)
      have hn : n ≤ 255 := by
        have : (16 : Int) ^ i ≤ 16 ^ 2 := by
          rcases (by omega : i = 0 ∨ i = 1 ∨ i = 2) with rfl | rfl | rfl <;> decide
        omega
      by_cases hneg : valI (s[i].toNat : Int) < 0
      · rw [if_pos hneg] at hr'
        have e1 : decide (valI (s[i].toNat : Int) < 0) = true := by simpa using hneg
        clear hr hneg
        go_wp2_with fail
        (with_reducible refine (idx_c _ _ hb.1 hb.2).mono ?_); rintro e w1 ⟨rfl, rfl⟩
        go_wp2_with fail
        go_ret2
        exact ⟨by rw [← hr'.eq]; first | done | rfl, (by repeat (first | with_reducible exact Ext.refl _ | with_reducible assumption | with_reducible apply Ext.alloc | with_reducible apply Ext.drew | with_reducible apply Ext.drewN | (with_reducible refine Ext.set' ?_ (by first | omega | (simp only [World.size_alloc, World.size_setCell]; omega))) | (with_reducible refine Ext.trans ?_ (by with_reducible assumption)) | (with_reducible refine Ext.only ?_ (by with_reducible assumption) (by omega))))⟩
      · rw [if_neg hneg] at hr'
        have e1 : decide (valI (s[i].toNat : Int) < 0) = false := by simpa using hneg
        have v0 : 0 ≤ valI (s[i].toNat : Int) := by omega
        have hor := or_step n0 hn v0 hv.2
        have hpow : n * 16 + valI (s[i].toNat : Int) < 16 ^ (i + 1) := by
          rw [Int.pow_succ]; omega
        have HP := hid hpow
        clear hr hneg hpow n1
        go_wp2_with fail
        (with_reducible refine (idx_c _ _ hb.1 hb.2).mono ?_); rintro e w1 ⟨rfl, rfl⟩
        go_wp2_with fail
        go_roundg (gk - 1)
        case rel => exact ⟨i + 1, n * 16 + valI (s[i].toNat : Int), by omega, by go_num, rfl, by omega, HP.out, hr', K⟩
        case measure => omega
    · have hr' := hr.eq
      rw [List.drop_of_length_le (by rw [sb_len]; omega)] at hr'
      simp only [numG] at hr'
      have d1 : decide ((i : Int) < (s.size : Int)) = false := by simp; omega
      obtain rfl : i = s.size := by omega
      have HR := hid hr'
      clear hr' hr hlt
      go_wp2_with fail
      go_ret2
      exact ⟨by rw [← HR.out]; first | done | rfl, (by repeat (first | with_reducible exact Ext.refl _ | with_reducible assumption | with_reducible apply Ext.alloc | with_reducible apply Ext.drew | with_reducible apply Ext.drewN | (with_reducible refine Ext.set' ?_ (by first | omega | (simp only [World.size_alloc, World.size_setCell]; omega))) | (with_reducible refine Ext.trans ?_ (by with_reducible assumption)) | (with_reducible refine Ext.only ?_ (by with_reducible assumption) (by omega))))⟩

def pairG : List Int → List Int → Option (List Int)
  | D, a :: b :: t => if (numG 0 [a, b]).2 then pairG (D ++ [(numG 0 [a, b]).1]) t else none
  | D, _ => some D
def finV (f : Fr) : Fr × Int := if f.chk = 0 then (f, 0) else (Fr.zero, 4)
def finM (id : Int) : Option (List Int) → Fr × Int
  | some D => finV (mkFr id D)
  | none => (Fr.zero, 4)
theorem pair_bounds (a b : Int) : 0 ≤ (numG 0 [a, b]).1 ∧ (numG 0 [a, b]).1 ≤ 255 := by
  have h1 := valI_lt a
  have h2 := valI_lt b
  simp only [numG]
  split
  · simp
  · split
    · simp
    · simp only; omega
theorem mk_put (id x : Int) (D : List Int) (h : D.length < 8) : ((mkFr id D).cells.setIfInBounds (3 + D.length) (.int .u8 x)).setIfInBounds 2 (.int .i64 ((D.length : Int) + 1)) = (mkFr id (D ++ [x])).cells := by
  rcases D with _ | ⟨a0, _ | ⟨a1, _ | ⟨a2, _ | ⟨a3, _ | ⟨a4, _ | ⟨a5, _ | ⟨a6, _ | ⟨a7, t⟩⟩⟩⟩⟩⟩⟩⟩
  all_goals first | (simp at h; done) | (simp at h; omega) | rfl
def parseV (l : List Int) : Fr × Int :=
  if l.length < 4 ∨ 20 < l.length ∨ l.getD 3 0 ≠ 35 then (Fr.zero, 4)
  else if l.length = 6 ∧ l.getD 4 0 = 82 then (if (numG 0 (l.take 3)).2 then finV ⟨(numG 0 (l.take 3)).1, true, l.getD 5 0 - 48, 0, 0, 0, 0, 0, 0, 0, 0⟩ else (Fr.zero, 4))
  else if l.length % 2 = 1 then (Fr.zero, 4)
  else if (numG 0 (l.take 3)).2 then finM (numG 0 (l.take 3)).1 (pairG [] (l.drop 4))
  else (Fr.zero, 4)

theorem sb_extract (s : ByteArray) (i j : Nat) : sb (s.extract i j) = ((sb s).drop i).take (j - i) := by
  unfold sb
  rw [← List.map_drop, ← List.map_take]
  congr 1
  simp [ByteArray.data_extract, Array.toList_extract, List.extract_eq_take_drop]

set_option maxHeartbeats 4000000 in
theorem parse_c (s : ByteArray) (w : World) (hs : s.size ≤ 140737488355000) :
    Calls Try.prog 14 #[.string s] w fun e w' => e = .returned (.tuple #[(parseV (sb s)).1.val, .int .i64 (parseV (sb s)).2]) ∧ Ext w w' := by
  by_cases hl : s.size < 4 ∨ 20 < s.size
  · have hp : parseV (sb s) = (Fr.zero, 4) := by
      unfold parseV
      rw [sb_len, if_pos (by omega)]
    rw [hp]
    clear hp
    have e4 : decide ((s.size : Int) < 4) = true ∨ (decide ((s.size : Int) < 4) = false ∧ decide (20 < (s.size : Int)) = true) := by
      by_cases h : s.size < 4
      · exact .inl (by simp; omega)
      · exact .inr ⟨by simp; omega, by simp; omega⟩
    clear hl
    rcases e4 with d | ⟨d, d2⟩
    all_goals
      go_enter Try.func14, Try.ntmps14
      go_wp2_with fail
      exact bodyPost_ret (v := .tuple #[.agg #[.int .i64 0, .bool false, .int .i64 0, .int .u8 0, .int .u8 0, .int .u8 0, .int .u8 0, .int .u8 0, .int .u8 0, .int .u8 0, .int .u8 0], .int .i64 4]) (by simp [results, Try.results14, go_sem, *]) rfl ⟨rfl, (by repeat (first | with_reducible exact Ext.refl _ | with_reducible assumption | with_reducible apply Ext.alloc | with_reducible apply Ext.drew | with_reducible apply Ext.drewN | (with_reducible refine Ext.set' ?_ (by first | omega | (simp only [World.size_alloc, World.size_setCell]; omega))) | (with_reducible refine Ext.trans ?_ (by with_reducible assumption)) | (with_reducible refine Ext.only ?_ (by with_reducible assumption) (by omega))))⟩
  · obtain ⟨g4, g20⟩ : 4 ≤ s.size ∧ s.size ≤ 20 := by omega
    clear hl
    have e4 : decide ((s.size : Int) < 4) = false := by simp; omega
    have e20 : decide (20 < (s.size : Int)) = false := by simp; omega
    have hc3 := sb_at s (i := 3) (by omega)
    by_cases h35 : (sb s).getD 3 0 = 35
    · rw [h35] at hc3
      obtain ⟨N, hN⟩ : ∃ N, Is (numG 0 ((sb s).take 3)) N := ⟨_, Is.refl _⟩
      obtain ⟨id, ok⟩ := N
      have hNc : ∀ w, Calls Try.prog 26 #[.string (s.extract 0 3)] w fun e w' => e = .returned (.tuple #[.int .i64 id, .bool ok]) ∧ Ext w w' := fun w => by
        have := number_c (s.extract 0 3) w (by rw [← sb_len, sb_extract, List.length_take]; omega)
        rw [sb_extract, List.drop_zero, hN.eq] at this
        exact this
      have HNc := hid hNc
      clear hNc
      have hp : parseV (sb s) = if s.size = 6 ∧ (sb s).getD 4 0 = 82 then (if ok then finV ⟨id, true, (sb s).getD 5 0 - 48, 0, 0, 0, 0, 0, 0, 0, 0⟩ else (Fr.zero, 4))
          else if s.size % 2 = 1 then (Fr.zero, 4)
          else if ok then finM id (pairG [] ((sb s).drop 4))
          else (Fr.zero, 4) := by
        unfold parseV
        rw [hN.eq, sb_len, if_neg (by omega)]
      rw [hp]
      clear hp h35 hN
      obtain ⟨rs, hrs⟩ : ∃ rs, s.extract 4 s.size = rs := ⟨_, rfl⟩
      have hsb : (sb s).drop 4 = sb rs := by
        rw [← hrs, sb_extract, List.take_of_length_le (by rw [List.length_drop, sb_len]; omega)]
      have hrz : rs.size = s.size - 4 := by rw [← sb_len, ← hsb, List.length_drop, sb_len]
      have hgd : ∀ i, (sb s).getD (4 + i) 0 = (sb rs).getD i 0 := fun i => by
        rw [← hsb, List.getD_eq_getElem?_getD, List.getD_eq_getElem?_getD, List.getElem?_drop]
      have HB := hid (fun w' (q : Ext (w.alloc (.cells #[.int .i64 0, .bool false, .int .i64 0, .int .u8 0, .int .u8 0, .int .u8 0, .int .u8 0, .int .u8 0, .int .u8 0, .int .u8 0, .int .u8 0] FT)) w') => Ext.blk q (Blk.new w #[.int .i64 0, .bool false, .int .i64 0, .int .u8 0, .int .u8 0, .int .u8 0, .int .u8 0, .int .u8 0, .int .u8 0, .int .u8 0, .int .u8 0] FT))
      by_cases h6 : s.size = 6 ∧ (sb s).getD 4 0 = 82
      · rw [if_pos h6]
        obtain ⟨h6, h82⟩ := h6
        have hz2' : rs.size = 2 := by omega
        have hs5 : 5 < s.size := by omega
        clear hrz
        have hz2 : (rs.size : Int) = 2 := by omega
        have c0 := sb_at rs (i := 0) (by omega)
        have c1 := sb_at rs (i := 1) (by omega)
        rw [← hgd 0, h82] at c0
        rw [← hgd 1] at c1
        have c1o := c1
        clear c1
        obtain ⟨x5, hx5⟩ : ∃ x, Is ((sb s).getD 5 0) x := ⟨_, Is.refl _⟩
        have c1 : ((rs[1]'(by omega)).toNat : Int) = x5 := c1o.trans hx5.eq
        have hx0 := sb_byt s ((sb s).getD 5 0) (by rw [List.getD_eq_getElem?_getD, List.getElem?_eq_getElem (by rw [sb_len]; exact hs5)]; exact List.getElem_mem _)
        rw [hx5.eq] at hx0 ⊢
        clear h82 hx5 h6 hgd hsb hs5 c1o
        cases ok
        · simp only [Bool.false_eq_true, if_false]
          go_enter Try.func14, Try.ntmps14
          go_wp2_with fail
          (with_reducible refine (HNc.out _).mono ?_); rintro e w1 ⟨rfl, k1⟩
          have hsub : IntKind.i64.wrap (x5 - 48) = x5 - 48 := IntWalk.i64_in _ (by omega)
          have hconv : IntKind.i64.wrap x5 = x5 := IntWalk.i64_in _ (by omega)
          have bz := HB.out w1 (by repeat (first | with_reducible exact Ext.refl _ | with_reducible assumption | with_reducible apply Ext.alloc | with_reducible apply Ext.drew | with_reducible apply Ext.drewN | (with_reducible refine Ext.set' ?_ (by first | omega | (simp only [World.size_alloc, World.size_setCell]; omega))) | (with_reducible refine Ext.trans ?_ (by with_reducible assumption)) | (with_reducible refine Ext.only ?_ (by with_reducible assumption) (by omega))))
          have KE : Ext w w1 := (by repeat (first | with_reducible exact Ext.refl _ | with_reducible assumption | with_reducible apply Ext.alloc | with_reducible apply Ext.drew | with_reducible apply Ext.drewN | (with_reducible refine Ext.set' ?_ (by first | omega | (simp only [World.size_alloc, World.size_setCell]; omega))) | (with_reducible refine Ext.trans ?_ (by with_reducible assumption)) | (with_reducible refine Ext.only ?_ (by with_reducible assumption) (by omega))))
          go_wp2_with fail
          go_region
          clear c0 c1 hsub hconv HB HNc
          have HB2 := hid (fun w' (q : Ext (w1.alloc (.cells #[.int .i64 id, .bool true, .int .i64 (x5 - 48), .int .u8 0, .int .u8 0, .int .u8 0, .int .u8 0, .int .u8 0, .int .u8 0, .int .u8 0, .int .u8 0] FT)).drew w') =>
            (⟨Ext.blk q (Blk.new w1 #[.int .i64 id, .bool true, .int .i64 (x5 - 48), .int .u8 0, .int .u8 0, .int .u8 0, .int .u8 0, .int .u8 0, .int .u8 0, .int .u8 0, .int .u8 0] FT).drew, Ext.blk q (bz.alloc _).drew⟩ :
              Blk w' w1.heap.size #[.int .i64 id, .bool true, .int .i64 (x5 - 48), .int .u8 0, .int .u8 0, .int .u8 0, .int .u8 0, .int .u8 0, .int .u8 0, .int .u8 0, .int .u8 0] FT ∧ Blk w' w.heap.size #[.int .i64 0, .bool false, .int .i64 0, .int .u8 0, .int .u8 0, .int .u8 0, .int .u8 0, .int .u8 0, .int .u8 0, .int .u8 0, .int .u8 0] FT))
          have hlt := bz.lt
          have hne : w.heap.size ≠ w1.heap.size := by omega
          obtain ⟨zc0, zc1, zc2, zc3, zc4, zc5, zc6, zc7, zc8, zc9, zc10, zf0, zf1, zf2, zf3, zf4, zf5, zf6, zf7, zf8, zf9, zf10⟩ := Blk.cells11 bz
          clear bz HB2 k1
          go_wp2_with fail
          exact bodyPost_ret (v := .tuple #[.agg #[.int .i64 0, .bool false, .int .i64 0, .int .u8 0, .int .u8 0, .int .u8 0, .int .u8 0, .int .u8 0, .int .u8 0, .int .u8 0, .int .u8 0], .int .i64 4]) (by simp [results, Try.results14, go_sem, *]) rfl ⟨rfl, (by repeat (first | with_reducible exact Ext.refl _ | with_reducible assumption | with_reducible apply Ext.alloc | with_reducible apply Ext.drew | with_reducible apply Ext.drewN | (with_reducible refine Ext.set' ?_ (by first | omega | (simp only [World.size_alloc, World.size_setCell]; omega))) | (with_reducible refine Ext.trans ?_ (by with_reducible assumption)) | (with_reducible refine Ext.only ?_ (by with_reducible assumption) (by omega))))⟩
        · simp only [if_true]
          have CK := hid (fun w => check_c id true (x5 - 48) 0 0 0 0 0 0 0 0 w)
          unfold finV
          by_cases hm : Fr.chk ⟨id, true, x5 - 48, 0, 0, 0, 0, 0, 0, 0, 0⟩ = 0
          · rw [if_pos hm]
            rw [hm] at CK
            clear hm
            go_enter Try.func14, Try.ntmps14
            go_wp2_with fail
            (with_reducible refine (HNc.out _).mono ?_); rintro e w1 ⟨rfl, k1⟩
            have hsub : IntKind.i64.wrap (x5 - 48) = x5 - 48 := IntWalk.i64_in _ (by omega)
            have hconv : IntKind.i64.wrap x5 = x5 := IntWalk.i64_in _ (by omega)
            have bz := HB.out w1 (by repeat (first | with_reducible exact Ext.refl _ | with_reducible assumption | with_reducible apply Ext.alloc | with_reducible apply Ext.drew | with_reducible apply Ext.drewN | (with_reducible refine Ext.set' ?_ (by first | omega | (simp only [World.size_alloc, World.size_setCell]; omega))) | (with_reducible refine Ext.trans ?_ (by with_reducible assumption)) | (with_reducible refine Ext.only ?_ (by with_reducible assumption) (by omega))))
            have KE : Ext w w1 := (by repeat (first | with_reducible exact Ext.refl _ | with_reducible assumption | with_reducible apply Ext.alloc | with_reducible apply Ext.drew | with_reducible apply Ext.drewN | (with_reducible refine Ext.set' ?_ (by first | omega | (simp only [World.size_alloc, World.size_setCell]; omega))) | (with_reducible refine Ext.trans ?_ (by with_reducible assumption)) | (with_reducible refine Ext.only ?_ (by with_reducible assumption) (by omega))))
            go_wp2_with fail
            go_region
            clear c0 c1 hsub hconv HB HNc
            have HB2 := hid (fun w' (q : Ext (w1.alloc (.cells #[.int .i64 id, .bool true, .int .i64 (x5 - 48), .int .u8 0, .int .u8 0, .int .u8 0, .int .u8 0, .int .u8 0, .int .u8 0, .int .u8 0, .int .u8 0] FT)).drew w') =>
              (⟨Ext.blk q (Blk.new w1 #[.int .i64 id, .bool true, .int .i64 (x5 - 48), .int .u8 0, .int .u8 0, .int .u8 0, .int .u8 0, .int .u8 0, .int .u8 0, .int .u8 0, .int .u8 0] FT).drew, Ext.blk q (bz.alloc _).drew⟩ :
                Blk w' w1.heap.size #[.int .i64 id, .bool true, .int .i64 (x5 - 48), .int .u8 0, .int .u8 0, .int .u8 0, .int .u8 0, .int .u8 0, .int .u8 0, .int .u8 0, .int .u8 0] FT ∧ Blk w' w.heap.size #[.int .i64 0, .bool false, .int .i64 0, .int .u8 0, .int .u8 0, .int .u8 0, .int .u8 0, .int .u8 0, .int .u8 0, .int .u8 0, .int .u8 0] FT))
            have hlt := bz.lt
            have hne : w.heap.size ≠ w1.heap.size := by omega
            clear bz k1
            go_wp2_with fail
            (with_reducible refine (CK.out _).mono ?_); rintro e w2 ⟨rfl, k2⟩
            obtain ⟨bf, bz⟩ := HB2.out w2 (by repeat (first | with_reducible exact Ext.refl _ | with_reducible assumption | with_reducible apply Ext.alloc | with_reducible apply Ext.drew | with_reducible apply Ext.drewN | (with_reducible refine Ext.set' ?_ (by first | omega | (simp only [World.size_alloc, World.size_setCell]; omega))) | (with_reducible refine Ext.trans ?_ (by with_reducible assumption)) | (with_reducible refine Ext.only ?_ (by with_reducible assumption) (by omega))))
            have KF : Ext w w2 := (by repeat (first | with_reducible exact Ext.refl _ | with_reducible assumption | with_reducible apply Ext.alloc | with_reducible apply Ext.drew | with_reducible apply Ext.drewN | (with_reducible refine Ext.set' ?_ (by first | omega | (simp only [World.size_alloc, World.size_setCell]; omega))) | (with_reducible refine Ext.trans ?_ (by with_reducible assumption)) | (with_reducible refine Ext.only ?_ (by with_reducible assumption) (by omega))))
            have hl2 := bf.lt
            clear CK HB2 k2 KE hlt
            generalize w1.heap.size = p at *
            obtain ⟨pc0, pc1, pc2, pc3, pc4, pc5, pc6, pc7, pc8, pc9, pc10, pf0, pf1, pf2, pf3, pf4, pf5, pf6, pf7, pf8, pf9, pf10⟩ := Blk.cells11 bf
            obtain ⟨zc0, zc1, zc2, zc3, zc4, zc5, zc6, zc7, zc8, zc9, zc10, zf0, zf1, zf2, zf3, zf4, zf5, zf6, zf7, zf8, zf9, zf10⟩ := Blk.cells11 bz
            clear pf0 pf1 pf2 pf3 pf4 pf5 pf6 pf7 pf8 pf9 pf10
            go_wp2_with fail
            exact bodyPost_ret (v := .tuple #[.agg #[.int .i64 id, .bool true, .int .i64 (x5 - 48), .int .u8 0, .int .u8 0, .int .u8 0, .int .u8 0, .int .u8 0, .int .u8 0, .int .u8 0, .int .u8 0], .int .i64 0]) (by simp [results, Try.results14, go_sem, *]) rfl ⟨rfl, (by repeat (first | with_reducible exact Ext.refl _ | with_reducible assumption | with_reducible apply Ext.alloc | with_reducible apply Ext.drew | with_reducible apply Ext.drewN | (with_reducible refine Ext.set' ?_ (by first | omega | (simp only [World.size_alloc, World.size_setCell]; omega))) | (with_reducible refine Ext.trans ?_ (by with_reducible assumption)) | (with_reducible refine Ext.only ?_ (by with_reducible assumption) (by omega))))⟩
          · rw [if_neg hm]
            have e0 : (Fr.chk ⟨id, true, x5 - 48, 0, 0, 0, 0, 0, 0, 0, 0⟩ != 0) = true := by simpa using hm
            generalize Fr.chk ⟨id, true, x5 - 48, 0, 0, 0, 0, 0, 0, 0, 0⟩ = m at *
            clear hm
            go_enter Try.func14, Try.ntmps14
            go_wp2_with fail
            (with_reducible refine (HNc.out _).mono ?_); rintro e w1 ⟨rfl, k1⟩
            have hsub : IntKind.i64.wrap (x5 - 48) = x5 - 48 := IntWalk.i64_in _ (by omega)
            have hconv : IntKind.i64.wrap x5 = x5 := IntWalk.i64_in _ (by omega)
            have bz := HB.out w1 (by repeat (first | with_reducible exact Ext.refl _ | with_reducible assumption | with_reducible apply Ext.alloc | with_reducible apply Ext.drew | with_reducible apply Ext.drewN | (with_reducible refine Ext.set' ?_ (by first | omega | (simp only [World.size_alloc, World.size_setCell]; omega))) | (with_reducible refine Ext.trans ?_ (by with_reducible assumption)) | (with_reducible refine Ext.only ?_ (by with_reducible assumption) (by omega))))
            have KE : Ext w w1 := (by repeat (first | with_reducible exact Ext.refl _ | with_reducible assumption | with_reducible apply Ext.alloc | with_reducible apply Ext.drew | with_reducible apply Ext.drewN | (with_reducible refine Ext.set' ?_ (by first | omega | (simp only [World.size_alloc, World.size_setCell]; omega))) | (with_reducible refine Ext.trans ?_ (by with_reducible assumption)) | (with_reducible refine Ext.only ?_ (by with_reducible assumption) (by omega))))
            go_wp2_with fail
            go_region
            clear c0 c1 hsub hconv HB HNc
            have HB2 := hid (fun w' (q : Ext (w1.alloc (.cells #[.int .i64 id, .bool true, .int .i64 (x5 - 48), .int .u8 0, .int .u8 0, .int .u8 0, .int .u8 0, .int .u8 0, .int .u8 0, .int .u8 0, .int .u8 0] FT)).drew w') =>
              (⟨Ext.blk q (Blk.new w1 #[.int .i64 id, .bool true, .int .i64 (x5 - 48), .int .u8 0, .int .u8 0, .int .u8 0, .int .u8 0, .int .u8 0, .int .u8 0, .int .u8 0, .int .u8 0] FT).drew, Ext.blk q (bz.alloc _).drew⟩ :
                Blk w' w1.heap.size #[.int .i64 id, .bool true, .int .i64 (x5 - 48), .int .u8 0, .int .u8 0, .int .u8 0, .int .u8 0, .int .u8 0, .int .u8 0, .int .u8 0, .int .u8 0] FT ∧ Blk w' w.heap.size #[.int .i64 0, .bool false, .int .i64 0, .int .u8 0, .int .u8 0, .int .u8 0, .int .u8 0, .int .u8 0, .int .u8 0, .int .u8 0, .int .u8 0] FT))
            have hlt := bz.lt
            have hne : w.heap.size ≠ w1.heap.size := by omega
            clear bz k1
            go_wp2_with fail
            (with_reducible refine (CK.out _).mono ?_); rintro e w2 ⟨rfl, k2⟩
            obtain ⟨bf, bz⟩ := HB2.out w2 (by repeat (first | with_reducible exact Ext.refl _ | with_reducible assumption | with_reducible apply Ext.alloc | with_reducible apply Ext.drew | with_reducible apply Ext.drewN | (with_reducible refine Ext.set' ?_ (by first | omega | (simp only [World.size_alloc, World.size_setCell]; omega))) | (with_reducible refine Ext.trans ?_ (by with_reducible assumption)) | (with_reducible refine Ext.only ?_ (by with_reducible assumption) (by omega))))
            have KF : Ext w w2 := (by repeat (first | with_reducible exact Ext.refl _ | with_reducible assumption | with_reducible apply Ext.alloc | with_reducible apply Ext.drew | with_reducible apply Ext.drewN | (with_reducible refine Ext.set' ?_ (by first | omega | (simp only [World.size_alloc, World.size_setCell]; omega))) | (with_reducible refine Ext.trans ?_ (by with_reducible assumption)) | (with_reducible refine Ext.only ?_ (by with_reducible assumption) (by omega))))
            have hl2 := bz.lt
            clear CK HB2 k2 KE hlt bf
            obtain ⟨zc0, zc1, zc2, zc3, zc4, zc5, zc6, zc7, zc8, zc9, zc10, zf0, zf1, zf2, zf3, zf4, zf5, zf6, zf7, zf8, zf9, zf10⟩ := Blk.cells11 bz
            go_wp2_with fail
            exact bodyPost_ret (v := .tuple #[.agg #[.int .i64 0, .bool false, .int .i64 0, .int .u8 0, .int .u8 0, .int .u8 0, .int .u8 0, .int .u8 0, .int .u8 0, .int .u8 0, .int .u8 0], .int .i64 4]) (by simp [results, Try.results14, go_sem, *]) rfl ⟨rfl, (by repeat (first | with_reducible exact Ext.refl _ | with_reducible assumption | with_reducible apply Ext.alloc | with_reducible apply Ext.drew | with_reducible apply Ext.drewN | (with_reducible refine Ext.set' ?_ (by first | omega | (simp only [World.size_alloc, World.size_setCell]; omega))) | (with_reducible refine Ext.trans ?_ (by with_reducible assumption)) | (with_reducible refine Ext.only ?_ (by with_reducible assumption) (by omega))))⟩
      · rw [if_neg h6]
        by_cases ho : s.size % 2 = 1
        · rw [if_pos ho]
          have e2 : ((rs.size : Int) == 2) = false := by simp; omega
          have e3 : ((rs.size : Int) % 2 == 1) = true := by simp; omega
          clear h6 hgd hsb hrz
          go_enter Try.func14, Try.ntmps14
          go_wp2_with fail
          (with_reducible refine (HNc.out _).mono ?_); rintro e w1 ⟨rfl, k1⟩
          have bz := HB.out w1 (by repeat (first | with_reducible exact Ext.refl _ | with_reducible assumption | with_reducible apply Ext.alloc | with_reducible apply Ext.drew | with_reducible apply Ext.drewN | (with_reducible refine Ext.set' ?_ (by first | omega | (simp only [World.size_alloc, World.size_setCell]; omega))) | (with_reducible refine Ext.trans ?_ (by with_reducible assumption)) | (with_reducible refine Ext.only ?_ (by with_reducible assumption) (by omega))))
          have hzl := bz.lt
          have KE : Ext w w1 := (by repeat (first | with_reducible exact Ext.refl _ | with_reducible assumption | with_reducible apply Ext.alloc | with_reducible apply Ext.drew | with_reducible apply Ext.drewN | (with_reducible refine Ext.set' ?_ (by first | omega | (simp only [World.size_alloc, World.size_setCell]; omega))) | (with_reducible refine Ext.trans ?_ (by with_reducible assumption)) | (with_reducible refine Ext.only ?_ (by with_reducible assumption) (by omega))))
          obtain ⟨zc0, zc1, zc2, zc3, zc4, zc5, zc6, zc7, zc8, zc9, zc10, zf0, zf1, zf2, zf3, zf4, zf5, zf6, zf7, zf8, zf9, zf10⟩ := Blk.cells11 bz
          clear k1 HB HNc bz
          go_wp2_with fail
          exact bodyPost_ret (v := .tuple #[.agg #[.int .i64 0, .bool false, .int .i64 0, .int .u8 0, .int .u8 0, .int .u8 0, .int .u8 0, .int .u8 0, .int .u8 0, .int .u8 0, .int .u8 0], .int .i64 4]) (by simp [results, Try.results14, go_sem, *]) rfl ⟨rfl, (by repeat (first | with_reducible exact Ext.refl _ | with_reducible assumption | with_reducible apply Ext.alloc | with_reducible apply Ext.drew | with_reducible apply Ext.drewN | (with_reducible refine Ext.set' ?_ (by first | omega | (simp only [World.size_alloc, World.size_setCell]; omega))) | (with_reducible refine Ext.trans ?_ (by with_reducible assumption)) | (with_reducible refine Ext.only ?_ (by with_reducible assumption) (by omega))))⟩
        · rw [if_neg ho]
          have hcase : (((rs.size : Int) == 2) = false) ∨ (((rs.size : Int) = 2) ∧ ∀ h : 0 < rs.size, ((rs[0].toNat : Int) == 82) = false) := by
            by_cases h2 : rs.size = 2
            · refine .inr ⟨by omega, fun h => ?_⟩
              have := sb_at rs h
              rw [← hgd 0] at this
              rw [this]
              exact beq_eq_false_iff_ne.2 (fun q => h6 ⟨by omega, q⟩)
            · exact .inl (by simp; omega)
          have hev : (rs.size : Int) % 2 = 0 := by omega
          have e3 : ((rs.size : Int) % 2 == 1) = false := by rw [hev]; rfl
          have hev' : rs.size % 2 = 0 := by omega
          have hr16 : rs.size ≤ 16 := by omega
          obtain ⟨F, hF⟩ : ∃ F, Is (if ok = true then finM id (pairG [] ((sb s).drop 4)) else (Fr.zero, 4)) F := ⟨_, Is.refl _⟩
          rw [hF.eq]
          rw [hsb] at hF
          clear h6 hgd hsb hrz ho hev
          rcases hcase with e2 | ⟨z2, e2⟩
          all_goals
            try have e2 := e2 (by omega)
            go_enter Try.func14, Try.ntmps14
            go_wp2_with fail
            (with_reducible refine (HNc.out _).mono ?_); rintro e w1 ⟨rfl, k1⟩
            have bz := HB.out w1 (by repeat (first | with_reducible exact Ext.refl _ | with_reducible assumption | with_reducible apply Ext.alloc | with_reducible apply Ext.drew | with_reducible apply Ext.drewN | (with_reducible refine Ext.set' ?_ (by first | omega | (simp only [World.size_alloc, World.size_setCell]; omega))) | (with_reducible refine Ext.trans ?_ (by with_reducible assumption)) | (with_reducible refine Ext.only ?_ (by with_reducible assumption) (by omega))))
            have hzl := bz.lt
            have KE : Ext w w1 := (by repeat (first | with_reducible exact Ext.refl _ | with_reducible assumption | with_reducible apply Ext.alloc | with_reducible apply Ext.drew | with_reducible apply Ext.drewN | (with_reducible refine Ext.set' ?_ (by first | omega | (simp only [World.size_alloc, World.size_setCell]; omega))) | (with_reducible refine Ext.trans ?_ (by with_reducible assumption)) | (with_reducible refine Ext.only ?_ (by with_reducible assumption) (by omega))))
            clear k1 HB HNc
            go_wp2_with fail
            have bf : Blk (w1.alloc (.cells #[.int .i64 id, .bool false, .int .i64 0, .int .u8 0, .int .u8 0, .int .u8 0, .int .u8 0, .int .u8 0, .int .u8 0, .int .u8 0, .int .u8 0] 24)) w1.heap.size (mkFr id []).cells FT := Blk.new w1 _ _
            have bz := bz.alloc (.cells #[.int .i64 id, .bool false, .int .i64 0, .int .u8 0, .int .u8 0, .int .u8 0, .int .u8 0, .int .u8 0, .int .u8 0, .int .u8 0, .int .u8 0] 24)
            have KF : Ext w (w1.alloc (.cells #[.int .i64 id, .bool false, .int .i64 0, .int .u8 0, .int .u8 0, .int .u8 0, .int .u8 0, .int .u8 0, .int .u8 0, .int .u8 0, .int .u8 0] 24)) := (by repeat (first | with_reducible exact Ext.refl _ | with_reducible assumption | with_reducible apply Ext.alloc | with_reducible apply Ext.drew | with_reducible apply Ext.drewN | (with_reducible refine Ext.set' ?_ (by first | omega | (simp only [World.size_alloc, World.size_setCell]; omega))) | (with_reducible refine Ext.trans ?_ (by with_reducible assumption)) | (with_reducible refine Ext.only ?_ (by with_reducible assumption) (by omega))))
            have hne : w.heap.size ≠ w1.heap.size := by omega
            have hle : w.heap.size ≤ w1.heap.size := by omega
            generalize w1.heap.size = p at *
            go_loopg [5, 8, 9] rs.size (fun g u5 u8 u9 wr => ∃ (i : Nat) (D : List Int) (b : Bool), i + g = rs.size ∧ i = 2 * D.length ∧ u8 = .int .i64 i ∧ u5 = .bool b ∧ Ext w wr ∧ Blk wr p (mkFr id D).cells FT ∧ Blk wr w.heap.size #[.int .i64 0, .bool false, .int .i64 0, .int .u8 0, .int .u8 0, .int .u8 0, .int .u8 0, .int .u8 0, .int .u8 0, .int .u8 0, .int .u8 0] FT ∧ Is (if b = true then finM id (pairG D ((sb rs).drop i)) else (Fr.zero, 4)) F)
            case atStart => exact ⟨0, [], ok, by omega, rfl, rfl, rfl, KF, bf, bz, hF⟩
            case round =>
              clear bf bz KF hF
              obtain ⟨i, D, b, hig, hiD, rfl, rfl, K, bf, bz, hF⟩ := hrel
              subst hiD
              by_cases hgo : 2 * D.length < rs.size ∧ b = true
              · obtain ⟨hlt, rfl⟩ := hgo
                have d1 : decide (2 * (D.length : Int) < (rs.size : Int)) = true := by simp; omega
                have i0 : (0 : Int) ≤ 2 * (D.length : Int) := by omega
                have i1 : 2 * (D.length : Int) + 2 ≤ (rs.size : Int) := by omega
                have i2 : 2 * D.length + 2 ≤ rs.size := by omega
                have hD8 : D.length < 8 := by omega
                have hdrop := sb_drop rs (2 * D.length) hlt
                rw [sb_drop rs (2 * D.length + 1) (by omega)] at hdrop
                rw [hdrop] at hF
                simp only [if_true, pairG] at hF
                have hpb := pair_bounds (rs[2 * D.length].toNat : Int) (rs[2 * D.length + 1].toNat : Int)
                obtain ⟨N, hN⟩ : ∃ N, Is (numG 0 [(rs[2 * D.length].toNat : Int), (rs[2 * D.length + 1].toNat : Int)]) N := ⟨_, Is.refl _⟩
                have hnum : ∀ w, Calls Try.prog 26 #[.string (rs.extract (2 * D.length) (2 * D.length + 2))] w fun e w' => e = .returned (.tuple #[.int .i64 N.1, .bool N.2]) ∧ Ext w w' := fun w => by
                  have := number_c (rs.extract (2 * D.length) (2 * D.length + 2)) w (by rw [← sb_len, sb_extract, List.length_take]; omega)
                  rw [sb_extract, hdrop, show 2 * D.length + 2 - 2 * D.length = 2 by omega] at this
                  simp only [List.take_succ_cons, List.take_zero] at this
                  rw [hN.eq] at this
                  exact this
                rw [hN.eq] at hF hpb
                obtain ⟨n, ok2⟩ := N
                simp only at hF hpb hnum
                have HN := Go.Proofs.Ytcahjmnkcdcbpaa.hid hnum
                have HF : Hid (Is (if ok2 = true then finM id (pairG (D ++ [n]) ((sb rs).drop (2 * D.length + 2))) else (Fr.zero, 4)) F) := by
                  refine Go.Proofs.Ytcahjmnkcdcbpaa.hid ?_
                  cases ok2
                  · exact hF
                  · exact hF
                clear hF hN hdrop hnum
                go_wp2_with fail
                (with_reducible refine (HN.out _).mono ?_); rintro e w2 ⟨rfl, k2⟩
                have K2 : Ext w w2 := (by repeat (first | with_reducible exact Ext.refl _ | with_reducible assumption | with_reducible apply Ext.alloc | with_reducible apply Ext.drew | with_reducible apply Ext.drewN | (with_reducible refine Ext.set' ?_ (by first | omega | (simp only [World.size_alloc, World.size_setCell]; omega))) | (with_reducible refine Ext.trans ?_ (by with_reducible assumption)) | (with_reducible refine Ext.only ?_ (by with_reducible assumption) (by omega))))
                have bf2 := k2.blk bf
                have bz2 := k2.blk bz
                have hfin := (bf2.set (3 + D.length) (.int .u8 n)).set 2 (.int .i64 ((D.length : Int) + 1))
                rw [mk_put id n D hD8] at hfin
                have bz3 := (bz2.other ⟨p, 3 + D.length, none⟩ (.int .u8 n) hne).other ⟨p, 2, none⟩ (.int .i64 ((D.length : Int) + 1)) hne
                have q2 : w2.cell? ⟨p, 2, none⟩ = some (.int .i64 (D.length : Int)) := bf2.cell 2 _ rfl
                have q3 : w2.cell? ⟨p, 3 + D.length, none⟩ = some (.int .u8 ((mkFr id D).data.getD D.length 0)) := Fr.cellAt bf2 hD8
                have t2 := bf2.free 2
                have t3 := bf2.free (3 + D.length)
                have K3 : Ext w ((w2.setCell ⟨p, 3 + D.length, none⟩ (.int .u8 n)).setCell ⟨p, 2, none⟩ (.int .i64 ((D.length : Int) + 1))) := (by repeat (first | with_reducible exact Ext.refl _ | with_reducible assumption | with_reducible apply Ext.alloc | with_reducible apply Ext.drew | with_reducible apply Ext.drewN | (with_reducible refine Ext.set' ?_ (by first | omega | (simp only [World.size_alloc, World.size_setCell]; omega))) | (with_reducible refine Ext.trans ?_ (by with_reducible assumption)) | (with_reducible refine Ext.only ?_ (by with_reducible assumption) (by omega))))
                have HH := Go.Proofs.Ytcahjmnkcdcbpaa.hid (And.intro K3 (And.intro hfin bz3))
                generalize (mkFr id D).data.getD D.length 0 = y at *
                clear bf bz bf2 bz2 hfin bz3 K3 K2 k2 HN
                go_wp2_with fail
                go_roundg (gk - 2)
                case rel =>
                  obtain ⟨K3, hfin, bz3⟩ := HH.out
                  exact ⟨2 * D.length + 2, D ++ [n], ok2, by omega, by simp; omega, by go_num, rfl, K3, hfin, bz3, HF.out⟩
                case measure => omega
              · cases b
                · have HE : Hid ((Fr.zero, (4 : Int)) = F) := Go.Proofs.Ytcahjmnkcdcbpaa.hid hF.eq
                  have hzl2 := bz.lt
                  obtain ⟨zc0, zc1, zc2, zc3, zc4, zc5, zc6, zc7, zc8, zc9, zc10, zf0, zf1, zf2, zf3, zf4, zf5, zf6, zf7, zf8, zf9, zf10⟩ := Blk.cells11 bz
                  clear hgo hF bf bz
                  by_cases hlt : 2 * D.length < rs.size
                  · have d1 : decide (2 * (D.length : Int) < (rs.size : Int)) = true := by simp; omega
                    go_wp2_with fail
                    exact bodyPost_ret (v := .tuple #[.agg #[.int .i64 0, .bool false, .int .i64 0, .int .u8 0, .int .u8 0, .int .u8 0, .int .u8 0, .int .u8 0, .int .u8 0, .int .u8 0, .int .u8 0], .int .i64 4]) (by simp [results, Try.results14, go_sem, *]) rfl ⟨by rw [← HE.out]; rfl, (by repeat (first | with_reducible exact Ext.refl _ | with_reducible assumption | with_reducible apply Ext.alloc | with_reducible apply Ext.drew | with_reducible apply Ext.drewN | (with_reducible refine Ext.set' ?_ (by first | omega | (simp only [World.size_alloc, World.size_setCell]; omega))) | (with_reducible refine Ext.trans ?_ (by with_reducible assumption)) | (with_reducible refine Ext.only ?_ (by with_reducible assumption) (by omega))))⟩
                  · have d1 : decide (2 * (D.length : Int) < (rs.size : Int)) = false := by simp; omega
                    have d2 : (rs.size : Int) ≤ 2 * (D.length : Int) := by omega
                    go_wp2_with fail
                    exact bodyPost_ret (v := .tuple #[.agg #[.int .i64 0, .bool false, .int .i64 0, .int .u8 0, .int .u8 0, .int .u8 0, .int .u8 0, .int .u8 0, .int .u8 0, .int .u8 0, .int .u8 0], .int .i64 4]) (by simp [results, Try.results14, go_sem, *]) rfl ⟨by rw [← HE.out]; rfl, (by repeat (first | with_reducible exact Ext.refl _ | with_reducible assumption | with_reducible apply Ext.alloc | with_reducible apply Ext.drew | with_reducible apply Ext.drewN | (with_reducible refine Ext.set' ?_ (by first | omega | (simp only [World.size_alloc, World.size_setCell]; omega))) | (with_reducible refine Ext.trans ?_ (by with_reducible assumption)) | (with_reducible refine Ext.only ?_ (by with_reducible assumption) (by omega))))⟩
                · have hsz : 2 * D.length = rs.size := by
                    have := mt (fun h => And.intro h rfl) hgo
                    omega
                  have hF2 := hF.eq
                  rw [if_pos rfl, List.drop_of_length_le (by rw [sb_len]; omega)] at hF2
                  simp only [pairG, finM] at hF2
                  have d1 : decide (2 * (D.length : Int) < (rs.size : Int)) = false := by simp; omega
                  have d2 : (rs.size : Int) ≤ 2 * (D.length : Int) := by omega
                  have hzl2 := bz.lt
                  obtain ⟨G, hG⟩ : ∃ G, Is (mkFr id D) G := ⟨_, Is.refl _⟩
                  rw [hG.eq] at hF2 bf
                  obtain ⟨gid, grtr, glen, g0, g1, g2, g3, g4, g5, g6, g7⟩ := G
                  simp only [Fr.cells] at bf
                  have CK := Go.Proofs.Ytcahjmnkcdcbpaa.hid (fun w => check_c gid grtr glen g0 g1 g2 g3 g4 g5 g6 g7 w)
                  unfold finV at hF2
                  have HZ := Go.Proofs.Ytcahjmnkcdcbpaa.hid (fun (w' : World) (q : Ext wr w') => (⟨q.blk bf, q.blk bz⟩ : Blk w' p #[.int .i64 gid, .bool grtr, .int .i64 glen, .int .u8 g0, .int .u8 g1, .int .u8 g2, .int .u8 g3, .int .u8 g4, .int .u8 g5, .int .u8 g6, .int .u8 g7] FT ∧ Blk w' w.heap.size #[.int .i64 0, .bool false, .int .i64 0, .int .u8 0, .int .u8 0, .int .u8 0, .int .u8 0, .int .u8 0, .int .u8 0, .int .u8 0, .int .u8 0] FT))
                  obtain ⟨pc0, pc1, pc2, pc3, pc4, pc5, pc6, pc7, pc8, pc9, pc10, pf0, pf1, pf2, pf3, pf4, pf5, pf6, pf7, pf8, pf9, pf10⟩ := Blk.cells11 bf
                  clear pf0 pf1 pf2 pf3 pf4 pf5 pf6 pf7 pf8 pf9 pf10
                  by_cases hm : Fr.chk ⟨gid, grtr, glen, g0, g1, g2, g3, g4, g5, g6, g7⟩ = 0
                  · rw [if_pos hm] at hF2
                    have HE := Go.Proofs.Ytcahjmnkcdcbpaa.hid hF2
                    rw [hm] at CK
                    clear hm hF2 hF hgo hsz hG bf bz
                    go_wp2_with fail
                    (with_reducible refine (CK.out _).mono ?_); rintro e w2 ⟨rfl, k2⟩
                    obtain ⟨bf, bz⟩ := HZ.out w2 (by repeat (first | with_reducible exact Ext.refl _ | with_reducible assumption | with_reducible apply Ext.alloc | with_reducible apply Ext.drew | with_reducible apply Ext.drewN | (with_reducible refine Ext.set' ?_ (by first | omega | (simp only [World.size_alloc, World.size_setCell]; omega))) | (with_reducible refine Ext.trans ?_ (by with_reducible assumption)) | (with_reducible refine Ext.only ?_ (by with_reducible assumption) (by omega))))
                    have K2 : Ext w w2 := (by repeat (first | with_reducible exact Ext.refl _ | with_reducible assumption | with_reducible apply Ext.alloc | with_reducible apply Ext.drew | with_reducible apply Ext.drewN | (with_reducible refine Ext.set' ?_ (by first | omega | (simp only [World.size_alloc, World.size_setCell]; omega))) | (with_reducible refine Ext.trans ?_ (by with_reducible assumption)) | (with_reducible refine Ext.only ?_ (by with_reducible assumption) (by omega))))
                    have hl3 := bz.lt
                    clear pc0 pc1 pc2 pc3 pc4 pc5 pc6 pc7 pc8 pc9 pc10 CK HZ k2 K
                    obtain ⟨pc0, pc1, pc2, pc3, pc4, pc5, pc6, pc7, pc8, pc9, pc10, pf0, pf1, pf2, pf3, pf4, pf5, pf6, pf7, pf8, pf9, pf10⟩ := Blk.cells11 bf
                    obtain ⟨zc0, zc1, zc2, zc3, zc4, zc5, zc6, zc7, zc8, zc9, zc10, zf0, zf1, zf2, zf3, zf4, zf5, zf6, zf7, zf8, zf9, zf10⟩ := Blk.cells11 bz
                    clear pf0 pf1 pf2 pf3 pf4 pf5 pf6 pf7 pf8 pf9 pf10
                    go_wp2_with fail
                    exact bodyPost_ret (v := .tuple #[.agg #[.int .i64 gid, .bool grtr, .int .i64 glen, .int .u8 g0, .int .u8 g1, .int .u8 g2, .int .u8 g3, .int .u8 g4, .int .u8 g5, .int .u8 g6, .int .u8 g7], .int .i64 0]) (by simp [results, Try.results14, go_sem, *]) rfl ⟨by rw [← HE.out]; rfl, (by repeat (first | with_reducible exact Ext.refl _ | with_reducible assumption | with_reducible apply Ext.alloc | with_reducible apply Ext.drew | with_reducible apply Ext.drewN | (with_reducible refine Ext.set' ?_ (by first | omega | (simp only [World.size_alloc, World.size_setCell]; omega))) | (with_reducible refine Ext.trans ?_ (by with_reducible assumption)) | (with_reducible refine Ext.only ?_ (by with_reducible assumption) (by omega))))⟩
                  · rw [if_neg hm] at hF2
                    have HE := Go.Proofs.Ytcahjmnkcdcbpaa.hid hF2
                    have e0 : (Fr.chk ⟨gid, grtr, glen, g0, g1, g2, g3, g4, g5, g6, g7⟩ != 0) = true := by simpa using hm
                    generalize Fr.chk ⟨gid, grtr, glen, g0, g1, g2, g3, g4, g5, g6, g7⟩ = m at *
                    clear hm hF2 hF hgo hsz hG bf bz
                    go_wp2_with fail
                    (with_reducible refine (CK.out _).mono ?_); rintro e w2 ⟨rfl, k2⟩
                    obtain ⟨bf, bz⟩ := HZ.out w2 (by repeat (first | with_reducible exact Ext.refl _ | with_reducible assumption | with_reducible apply Ext.alloc | with_reducible apply Ext.drew | with_reducible apply Ext.drewN | (with_reducible refine Ext.set' ?_ (by first | omega | (simp only [World.size_alloc, World.size_setCell]; omega))) | (with_reducible refine Ext.trans ?_ (by with_reducible assumption)) | (with_reducible refine Ext.only ?_ (by with_reducible assumption) (by omega))))
                    have K2 : Ext w w2 := (by repeat (first | with_reducible exact Ext.refl _ | with_reducible assumption | with_reducible apply Ext.alloc | with_reducible apply Ext.drew | with_reducible apply Ext.drewN | (with_reducible refine Ext.set' ?_ (by first | omega | (simp only [World.size_alloc, World.size_setCell]; omega))) | (with_reducible refine Ext.trans ?_ (by with_reducible assumption)) | (with_reducible refine Ext.only ?_ (by with_reducible assumption) (by omega))))
                    have hl3 := bz.lt
                    clear pc0 pc1 pc2 pc3 pc4 pc5 pc6 pc7 pc8 pc9 pc10 CK HZ k2 K bf
                    obtain ⟨zc0, zc1, zc2, zc3, zc4, zc5, zc6, zc7, zc8, zc9, zc10, zf0, zf1, zf2, zf3, zf4, zf5, zf6, zf7, zf8, zf9, zf10⟩ := Blk.cells11 bz
                    go_wp2_with fail
                    exact bodyPost_ret (v := .tuple #[.agg #[.int .i64 0, .bool false, .int .i64 0, .int .u8 0, .int .u8 0, .int .u8 0, .int .u8 0, .int .u8 0, .int .u8 0, .int .u8 0, .int .u8 0], .int .i64 4]) (by simp [results, Try.results14, go_sem, *]) rfl ⟨by rw [← HE.out]; rfl, (by repeat (first | with_reducible exact Ext.refl _ | with_reducible assumption | with_reducible apply Ext.alloc | with_reducible apply Ext.drew | with_reducible apply Ext.drewN | (with_reducible refine Ext.set' ?_ (by first | omega | (simp only [World.size_alloc, World.size_setCell]; omega))) | (with_reducible refine Ext.trans ?_ (by with_reducible assumption)) | (with_reducible refine Ext.only ?_ (by with_reducible assumption) (by omega))))⟩
    · have hp : parseV (sb s) = (Fr.zero, 4) := by
        unfold parseV
        rw [sb_len, if_pos (.inr (.inr h35))]
      rw [hp]
      have e35 : ((s[3].toNat : Int) != 35) = true := by rw [hc3]; simpa using h35
      clear hp h35 hc3
      go_enter Try.func14, Try.ntmps14
      go_wp2_with fail
      exact bodyPost_ret (v := .tuple #[.agg #[.int .i64 0, .bool false, .int .i64 0, .int .u8 0, .int .u8 0, .int .u8 0, .int .u8 0, .int .u8 0, .int .u8 0, .int .u8 0, .int .u8 0], .int .i64 4]) (by simp [results, Try.results14, go_sem, *]) rfl ⟨rfl, (by repeat (first | with_reducible exact Ext.refl _ | with_reducible assumption | with_reducible apply Ext.alloc | with_reducible apply Ext.drew | with_reducible apply Ext.drewN | (with_reducible refine Ext.set' ?_ (by first | omega | (simp only [World.size_alloc, World.size_setCell]; omega))) | (with_reducible refine Ext.trans ?_ (by with_reducible assumption)) | (with_reducible refine Ext.only ?_ (by with_reducible assumption) (by omega))))⟩

end Go.Proofs.Ytcahjmnkcdcbpaa
