/- 'bits.Turn': what it makes of a row and of places. -/
import Derived.Test.YtobllheaadmbgaaBytes
import Derived.Deep.LoopGhost
import Derived.RegionTactic
import Derived.Deep.DeepCutAuto
import Derived.Deep.CutBlock
import Derived.IntWalk
set_option linter.unusedSimpArgs false
set_option linter.unusedVariables false
set_option linter.unnecessarySimpa false
namespace Go.Proofs.Ytobllheaadmbgaa
open Go.RowKit Go.Proofs.YtobllheaadmbgaaW.PrintWords
attribute [local go_sem] max2_max min2_min max_of_two min_of_two

def flip1 (x : Int) : Int := Go.bits .xor .u8 x 1
def turnAt (x : List Int) (i : Int) : List Int := if 0 ≤ i ∧ i < x.length then x.set i.toNat (flip1 (x.getD i.toNat 0)) else x
def plain (l : List Int) : List Int := l.map fun y => Go.bits .and .u8 y 1
def turnV (l m : List Int) : List Int := m.foldl turnAt (plain l)

theorem turnAt_len (x : List Int) (i : Int) : (turnAt x i).length = x.length := by unfold turnAt; split <;> simp
theorem plain_len (l : List Int) : (plain l).length = l.length := by simp [plain]

set_option maxHeartbeats 1000000 in
theorem turn_any (A : Option Addr) (bl o c : Nat) (l : List Int) (At : Option Addr) (blt ot ct : Nat) (m : List Int) (w : World) (hl : Row8 w A bl o l) (hm : Row64 w At blt ot m) (hsz : l.length ≤ 140737488355328) :
    Calls Try.prog 19 #[.slice A l.length c, .slice At m.length ct] w fun e w' => ∃ v, e = .returned v ∧ Own8 w' w.heap.size v (turnV l m) ∧ Below w.heap.size w w' := by
  have hlen := hl.1
  have hmlen := hm.1
  have HL := hid hl
  have HM := hid hm
  clear hl hm
  go_enter Try.func19, Try.ntmps19
  go_wp2_with (first | (at_make; refine mk8_own rfl _ _ rfl w.heap.size l.length rfl rfl (by rfl) (by omega) (Nat.le_refl _) ?_; intro v0 w0 h0 k0 e0; have H0 := hid h0; have K0 := hid k0; clear h0 k0 e0))
  have O0 : Hid (Own8 w0 w.heap.size v0 (plain (l.take 0))) := by simpa [plain] using H0
  go_loopg [5, 15] l.length (fun k v5 v15 wr => ∃ i : Nat, i + k = l.length ∧ v15 = .int .i64 i ∧ Hid (Own8 wr w.heap.size v5 (plain (l.take i))) ∧ Hid (Below w.heap.size w wr))
  case atStart => exact ⟨0, by omega, rfl, O0, K0⟩
  case round =>
    clear H0 O0 K0
    obtain ⟨i, hik, rfl, HO, HB⟩ := hrel
    by_cases hlt : i < l.length
    · obtain ⟨rfl, hbl⟩ := HL.out.2.1 (by omega)
      have hc : wr.cell? ⟨bl, o + i, none⟩ = some (.int .u8 (l.getD i 0)) := (HB.out.cell (p := ⟨bl, o + i, none⟩) hbl).trans (HL.out.2.2 i hlt)
      have hnext : plain (l.take (i + 1)) = plain (l.take i) ++ [Go.bits .and .u8 (l.getD i 0) 1] := by
        rw [List.take_succ_eq_append_getElem hlt, getD_at hlt]
        simp only [plain, List.map_append, List.map_cons, List.map_nil]
      have hpl : (plain (l.take i)).length = i := by rw [plain_len, List.length_take]; omega
      have HN := hid hnext
      have HPL := hid hpl
      clear hnext hpl
      generalize l.getD i 0 = y at *
      go_wp2_with (first | (at_builtin; refine app8_one rfl (.tmp 19) (.tmp 22) rfl w.heap.size rfl rfl HO.out (by have := HPL.out; omega) HB.out.size ?_; intro v1 w1 h1 k1; have H1 := hid h1; have K1 := hid (HB.out.trans k1); clear h1 k1))
      go_roundg (gk - 1)
      case rel => exact ⟨i + 1, by omega, by go_num, by rw [HN.out]; exact H1, K1⟩
      case measure => omega
    · have hi : i = l.length := by omega
      have HO' : Hid (Own8 wr w.heap.size u5 (plain l)) := by
        have h := HO.out
        rw [hi, List.take_length] at h
        exact h
      clear hi HO hik
      go_wp2_with fail
      go_loopg [27] m.length (fun k v27 wr => ∃ j : Nat, j + k = m.length ∧ v27 = .int .i64 j ∧ Hid (Own8 wr w.heap.size u5 ((m.take j).foldl turnAt (plain l))) ∧ Hid (Below w.heap.size w wr))
      case atStart => exact ⟨0, by omega, rfl, HO', HB⟩
      case round =>
        clear HB
        obtain ⟨j, hjk, rfl, HO, HB⟩ := hrel
        by_cases hlt : j < m.length
        · obtain ⟨rfl, hbl⟩ := HM.out.2.1 (by omega)
          have hc : wr.cell? ⟨blt, ot + j, none⟩ = some (.int .i64 (m.getD j 0)) := (HB.out.cell (p := ⟨blt, ot + j, none⟩) hbl).trans (HM.out.2.2 j hlt)
          have hnext : (m.take (j + 1)).foldl turnAt (plain l) = turnAt ((m.take j).foldl turnAt (plain l)) (m.getD j 0) := by
            rw [List.take_succ_eq_append_getElem hlt, List.foldl_append, getD_at hlt]; rfl
          have HN := hid hnext
          clear hnext
          generalize (m.take j).foldl turnAt (plain l) = x at *
          generalize m.getD j 0 = y at *
          obtain ⟨A5, bl5, o5, c5, rfl, hc5, hr5, hb5⟩ := HO.out.row
          have hx := hr5.1
          clear hc5 hr5 hb5 HO'
          by_cases hin : 0 ≤ y ∧ y < x.length
          · obtain ⟨hin0, hin1⟩ := hin
            have d0 : decide (0 ≤ y) = true := by simpa using hin0
            have d1 : decide (y < (x.length : Int)) = true := by simpa using hin1
            obtain ⟨g, c', e', hg1, hg2, hg3, hat⟩ := HO.out.at_ (by omega)
            obtain ⟨rfl, rfl⟩ : A5 = some ⟨g, 0, none⟩ ∧ c5 = c' := by simpa using e'
            clear e'
            obtain ⟨z, rfl⟩ := Int.eq_ofNat_of_zero_le hin0
            obtain ⟨cz, fz, sz⟩ := hat z (by omega)
            have SZ := hid (sz (flip1 (x.getD z 0)))
            have ht : turnAt x z = x.set z (flip1 (x.getD z 0)) := by unfold turnAt; rw [if_pos ⟨by omega, by omega⟩]; simp
            have HT := hid ht
            clear sz ht hat
            unfold flip1 at SZ HT
            generalize x.getD z 0 = y0 at *
            go_wp2_with fail
            go_roundg (gk - 1)
            case rel => exact ⟨j + 1, by omega, by go_num, by rw [HN.out, HT.out]; exact SZ, hid (HB.out.setCell hg1 _)⟩
            case measure => omega
          · have ht : turnAt x y = x := by unfold turnAt; rw [if_neg hin]
            have HT := hid ht
            clear ht
            have hd : decide (0 ≤ y) = false ∨ (decide (0 ≤ y) = true ∧ decide (y < (x.length : Int)) = false) := by
              by_cases h : 0 ≤ y
              · exact .inr ⟨by simpa using h, by simp; omega⟩
              · exact .inl (by simp; omega)
            clear hin
            rcases hd with d0 | ⟨d0, d1⟩
            all_goals
              go_wp2_with fail
              go_roundg (gk - 1)
              case rel => exact ⟨j + 1, by omega, by go_num, by rw [HN.out, HT.out]; exact HO, HB⟩
              case measure => omega
        · have hj : j = m.length := by omega
          have HF : Hid (Own8 wr w.heap.size u5 (turnV l m)) := by
            have h := HO.out
            rw [hj, List.take_length] at h
            exact h
          clear hj HO HO' hjk
          go_wp2_with fail
          go_ret
          exact ⟨_, rfl, HF.out, HB.out⟩

end Go.Proofs.Ytobllheaadmbgaa
