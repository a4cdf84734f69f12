/- Texts as rows of numbers; a strings.Builder in this workplace's words. -/
import Derived.Test.YtcahjmnkcdcbpaaAuto
import Derived.Test.YtcahjmnkcdcbpaaBuild
set_option linter.unusedSimpArgs false
set_option linter.unusedVariables false
set_option linter.unnecessarySimpa false
namespace Go.Proofs.Ytcahjmnkcdcbpaa
open Go.RowKit Go.Proofs.YtcahjmnkcdcbpaaW.PrintWords
attribute [local go_sem] max2_max min2_min max_of_two min_of_two

/-- A text's bytes; the text of some bytes. -/
def sb (s : ByteArray) : List Int := s.data.toList.map fun c => (c.toNat : Int)
def u8s (l : List Int) : List UInt8 := l.map fun x => x.toNat.toUInt8
def mkS (l : List Int) : ByteArray := ⟨(u8s l).toArray⟩
theorem sb_len (s : ByteArray) : (sb s).length = s.size := by simp [sb]
theorem sb_byt (s : ByteArray) : Byt (sb s) := by
  intro x hx
  obtain ⟨c, _, rfl⟩ := List.mem_map.1 hx
  have := c.toNat_lt
  omega
theorem u8_back {x : Int} (h0 : 0 ≤ x) (h1 : x ≤ 255) : ((x.toNat.toUInt8).toNat : Int) = x := by
  have : x.toNat.toUInt8.toNat = x.toNat := by
    rw [UInt8.toNat_ofNat']
    exact Nat.mod_eq_of_lt (by omega)
  omega
theorem sb_mkS {l : List Int} (h : Byt l) : sb (mkS l) = l := by
  unfold sb mkS u8s
  simp only [List.map_map]
  conv => rhs; rw [← List.map_id l]
  apply List.map_congr_left
  intro x hx
  exact u8_back (h x hx).1 (h x hx).2
theorem mkS_sb (s : ByteArray) : mkS (sb s) = s := by
  unfold sb mkS u8s
  simp only [List.map_map]
  have : (s.data.toList.map ((fun x : Int => x.toNat.toUInt8) ∘ fun c : UInt8 => (c.toNat : Int))) = s.data.toList := by
    conv => rhs; rw [← List.map_id s.data.toList]
    apply List.map_congr_left
    intro c _
    simp
  rw [this, Array.toArray_toList]
theorem mkS_size (l : List Int) : (mkS l).size = l.length := by simp [mkS, u8s, ByteArray.size]
theorem sb_inj {a b : ByteArray} (h : sb a = sb b) : a = b := by rw [← mkS_sb a, h, mkS_sb]
theorem mkS_inj {a b : List Int} (ha : Byt a) (hb : Byt b) (h : mkS a = mkS b) : a = b := by rw [← sb_mkS ha, h, sb_mkS hb]
theorem sb_at (s : ByteArray) {i : Nat} (h : i < s.size) : (s[i].toNat : Int) = (sb s).getD i 0 := by
  rw [List.getD_eq_getElem?_getD, List.getElem?_eq_getElem (by rw [sb_len]; exact h)]
  simp [sb]
  rfl
theorem sb_drop (s : ByteArray) (i : Nat) (h : i < s.size) : (sb s).drop i = (s[i].toNat : Int) :: (sb s).drop (i + 1) := by
  rw [List.drop_eq_getElem_cons (by rw [sb_len]; exact h)]
  congr 1
  simp [sb]
  rfl
theorem byteCells_u8s {l : List Int} (h : Byt l) : Lib.byteCells (u8s l) = l.map (Value.int .u8) := by
  unfold Lib.byteCells u8s
  rw [List.map_map]
  apply List.map_congr_left
  intro x hx
  show Value.int .u8 _ = _
  rw [u8_back (h x hx).1 (h x hx).2]

/-- A Builder of the call's own that holds some bytes. -/
structure Bd (base : World) (b : Nat) (l : List Int) (w : World) : Prop where
  bd : Lib.IsBuilder BT U8 base.heap.size b (l.map (Value.int .u8)) w
  ext : Ext base w
theorem Bd.new (w : World) : Bd w w.heap.size [] (w.alloc (.cells #[.pointer none, .slice none 0 0] BT)) := ⟨Lib.fresh_isBuilder BT U8 w, (by repeat (first | with_reducible exact Ext.refl _ | with_reducible assumption | with_reducible apply Ext.alloc | with_reducible apply Ext.drew | with_reducible apply Ext.drewN | (with_reducible refine Ext.set' ?_ (by first | omega | (simp only [World.size_alloc, World.size_setCell]; omega))) | (with_reducible refine Ext.trans ?_ (by with_reducible assumption)) | (with_reducible refine Ext.only ?_ (by with_reducible assumption) (by omega))))⟩
theorem Bd.write {base : World} {b : Nat} {l : List Int} {w : World} (h : Bd base b l w) (c : Int) (hl : l.length ≤ 140737488355000) :
    Calls Try.prog 24 #[.pointer (some ⟨b, 0, none⟩), .int .u8 c] w fun e w' => e = .returned .nilIface ∧ Bd base b (l ++ [c]) w' := by
  with_reducible refine (write_any base.heap.size b _ c w h.bd (by rw [List.length_map]; omega) h.ext.le).mono ?_
  rintro e w' ⟨rfl, h1, k1⟩
  refine ⟨rfl, .inr ?_, ?_⟩
  · rw [List.map_append]; exact h1
  · exact Below.trans h.ext k1
theorem Bd.string {base : World} {b : Nat} {l : List Int} {w : World} (h : Bd base b l w) (hb : Byt l) :
    Calls Try.prog 25 #[.pointer (some ⟨b, 0, none⟩)] w fun e w' => e = .returned (.string (mkS l)) ∧ Ext base w' := by
  have h' : Lib.IsBuilder BT U8 base.heap.size b (Lib.byteCells (u8s l)) w := by rw [byteCells_u8s hb]; exact h.bd
  with_reducible refine (Try.Builder_String_any base.heap.size b (u8s l) w h' h.ext.le).mono ?_
  rintro e w' ⟨rfl, k1⟩
  exact ⟨rfl, Below.trans h.ext k1⟩

end Go.Proofs.Ytcahjmnkcdcbpaa
