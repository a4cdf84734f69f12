/- Texts as rows of numbers. -/
import Derived.Test.YtpdomjinhbnmfaaAuto
set_option linter.unusedSimpArgs false
set_option linter.unusedVariables false
set_option linter.unnecessarySimpa false
namespace Go.Proofs.Ytpdomjinhbnmfaa
open Go.RowKit Go.Proofs.YtpdomjinhbnmfaaW.PrintWords

/-- A text's bytes; the text of some bytes. -/
def sb (s : ByteArray) : List Int := s.data.toList.map fun c => (c.toNat : Int)
def u8s (l : List Int) : List UInt8 := l.map fun x => x.toNat.toUInt8
def mkS (l : List Int) : ByteArray := ⟨(u8s l).toArray⟩
theorem sb_len (s : ByteArray) : (sb s).length = s.size := by simp [sb]
theorem sb_byt (s : ByteArray) : Byt (sb s) := by
  intro x hx
  obtain ⟨c, _, rfl⟩ := List.mem_map.1 hx
  have := c.toNat_lt
  omega
theorem u8_back {x : Int} (h0 : 0 ≤ x) (h1 : x ≤ 255) : ((x.toNat.toUInt8).toNat : Int) = x := by
  have : x.toNat.toUInt8.toNat = x.toNat := by
    rw [UInt8.toNat_ofNat']
    exact Nat.mod_eq_of_lt (by omega)
  omega
theorem sb_mkS {l : List Int} (h : Byt l) : sb (mkS l) = l := by
  unfold sb mkS u8s
  simp only [List.map_map]
  conv => rhs; rw [← List.map_id l]
  apply List.map_congr_left
  intro x hx
  exact u8_back (h x hx).1 (h x hx).2
theorem mkS_sb (s : ByteArray) : mkS (sb s) = s := by
  unfold sb mkS u8s
  simp only [List.map_map]
  have : (s.data.toList.map ((fun x : Int => x.toNat.toUInt8) ∘ fun c : UInt8 => (c.toNat : Int))) = s.data.toList := by
    conv => rhs; rw [← List.map_id s.data.toList]
    apply List.map_congr_left
    intro c _
    simp
  rw [this, Array.toArray_toList]
theorem mkS_size (l : List Int) : (mkS l).size = l.length := by simp [mkS, u8s, ByteArray.size]
theorem sb_inj {a b : ByteArray} (h : sb a = sb b) : a = b := by rw [← mkS_sb a, h, mkS_sb]
theorem mkS_inj {a b : List Int} (ha : Byt a) (hb : Byt b) (h : mkS a = mkS b) : a = b := by rw [← sb_mkS ha, h, sb_mkS hb]
theorem sb_at (s : ByteArray) {i : Nat} (h : i < s.size) : (s[i].toNat : Int) = (sb s).getD i 0 := by
  rw [List.getD_eq_getElem?_getD, List.getElem?_eq_getElem (by rw [sb_len]; exact h)]
  simp [sb]
  rfl
theorem sb_drop (s : ByteArray) (i : Nat) (h : i < s.size) : (sb s).drop i = (s[i].toNat : Int) :: (sb s).drop (i + 1) := by
  rw [List.drop_eq_getElem_cons (by rw [sb_len]; exact h)]
  congr 1
  simp [sb]
  rfl
theorem bytes_ne {a b : ByteArray} (h : a ≠ b) : (a.toList == b.toList) = false := by
  rw [beq_eq_false_iff_ne]
  intro e
  rw [ByteArray.toList_eq, ByteArray.toList_eq] at e
  apply h
  obtain ⟨⟨x⟩⟩ := a
  obtain ⟨⟨y⟩⟩ := b
  simpa using e
theorem str_dec {a b : List Int} (ha : Byt a) (hb : Byt b) : ((mkS a).toList == (mkS b).toList) = decide (a = b) := by
  by_cases h : a = b
  · subst h; simp
  · rw [bytes_ne (fun e => h (mkS_inj ha hb e))]; simp [h]

end Go.Proofs.Ytpdomjinhbnmfaa
