/- 'bits.Text': a row as text. -/
import Derived.Test.YtobllheaadmbgaaBuild
set_option linter.unusedSimpArgs false
set_option linter.unusedVariables false
set_option linter.unnecessarySimpa false
namespace Go.Proofs.Ytobllheaadmbgaa
open Go.RowKit Go.Proofs.YtobllheaadmbgaaW.PrintWords

/-- The sign of a bit. -/
def sgn (x : Int) : UInt8 := if x % 2 = 1 then 49 else 48
def textV (l : List Int) : List UInt8 := l.map sgn

set_option maxHeartbeats 2000000 in
theorem text_any (A : Option Addr) (bl o c n : Nat) (l : List Int) (w : World) (hl : Hid (Row8 w A bl o l)) (hn : Hid (l.length = n)) (hc : n ≤ c) (hsz : n ≤ 140737488351232) (hb : Hid (∀ x ∈ l, 0 ≤ x ∧ x ≤ 255)) :
    Calls Try.prog 11 #[.slice A n c] w fun e w' => e = .returned (.string ⟨(textV l).toArray⟩) ∧ Below w.heap.size w w' := by
  go_enter Try.func11, Try.ntmps11
  go_wp2_with fail
  have I0 := hid (Lib.fresh_isBuilder BT U8 w)
  have K0 := hid ((Below.refl w.heap.size w).alloc (Nat.le_refl _) (.cells #[.pointer none, .slice none 0 0] BT))
  go_loopg [5, 8] n (fun k v5 v8 wr => ∃ i : Nat, i + k = n ∧ v8 = .int .i64 i ∧ Hid (Lib.IsBuilder BT U8 w.heap.size w.heap.size (Lib.byteCells (textV (l.take i))) wr) ∧ Hid (Below w.heap.size w wr))
  case atStart => exact ⟨0, by omega, rfl, I0, K0⟩
  case round =>
    clear I0 K0
    obtain ⟨i, hik, rfl, HI, HB⟩ := hrel
    by_cases hlt : i < n
    · have d1 : decide ((i : Int) < (n : Int)) = true := by simpa using hlt
      obtain ⟨rfl, hbl⟩ := hl.out.2.1 (by have := hn.out; omega)
      have hca : wr.cell? ⟨bl, o + i, none⟩ = some (.int .u8 (l.getD i 0)) := (HB.out.cell (p := ⟨bl, o + i, none⟩) hbl).trans (hl.out.2.2 i (by have := hn.out; omega))
      obtain ⟨xv, hxv⟩ : ∃ xv, l.getD i 0 = xv := ⟨_, rfl⟩
      rw [hxv] at hca
      have hx := hb.out xv (by rw [← hxv, getD_at (by have := hn.out; omega)]; exact List.getElem_mem _)
      have hand : Go.bits .and .u8 xv 1 = xv % 2 := by
        obtain ⟨q, rfl⟩ := Int.eq_ofNat_of_zero_le hx.1
        have : ∀ q : Fin 256, Go.bits .and .u8 ((q.val : Nat) : Int) 1 = ((q.val : Nat) : Int) % 2 := by decide +kernel
        exact this ⟨q, by omega⟩
      have hcells : Lib.byteCells (textV (l.take i)) ++ [.int .u8 (48 + xv % 2)] = Lib.byteCells (textV (l.take (i + 1))) := by
        rw [List.take_add_one, List.getElem?_eq_getElem (by have := hn.out; omega), ← getD_at (by have := hn.out; omega), hxv]
        simp only [textV, List.map_append, Option.toList_some, List.map_cons, List.map_nil, Lib.byteCells]
        congr 2
        unfold sgn
        split
        · have : xv % 2 = 1 := by assumption
          rw [this]; rfl
        · have : xv % 2 = 0 := by omega
          rw [this]; rfl
      have hlen : (Lib.byteCells (textV (l.take i))).length + 1 ≤ 140737488355328 := by simp [Lib.byteCells, textV]; omega
      have HC := hid hcells
      clear hcells hxv
      go_wp2_with fail
      refine (write_any w.heap.size w.heap.size _ (48 + xv % 2) wr HI.out hlen HB.out.size).mono ?_
      rintro e w1 ⟨rfl, h1, k1⟩
      rw [HC.out] at h1
      have HI1 : Hid (Lib.IsBuilder BT U8 w.heap.size w.heap.size (Lib.byteCells (textV (l.take (i + 1)))) w1) := hid (.inr h1)
      have HB1 := hid (HB.out.trans k1)
      clear h1 k1
      go_wp2_with fail
      go_roundg (gk - 1)
      case rel => exact ⟨i + 1, by omega, by go_num, HI1, HB1⟩
      case measure => omega
    · have d1 : decide ((i : Int) < (n : Int)) = false := by simp; omega
      have HI' := HI.out
      rw [List.take_of_length_le (by have := hn.out; omega)] at HI'
      have HI2 := hid HI'
      clear HI'
      go_wp2_with fail
      refine (Try.Builder_String_any w.heap.size w.heap.size (textV l) wr HI2.out HB.out.size).mono ?_
      rintro e w1 ⟨rfl, k1⟩
      have HB1 := hid (HB.out.trans k1)
      clear k1
      go_wp2_with fail
      go_ret
      exact ⟨rfl, HB1.out⟩

end Go.Proofs.Ytobllheaadmbgaa
