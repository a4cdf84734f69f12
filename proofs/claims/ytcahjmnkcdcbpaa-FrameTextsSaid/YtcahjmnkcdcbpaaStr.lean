/- A strings.Builder in this workplace's words. -/
import Derived.Test.YtcahjmnkcdcbpaaBytext
import Derived.Test.YtcahjmnkcdcbpaaBuild
set_option linter.unusedSimpArgs false
set_option linter.unusedVariables false
set_option linter.unnecessarySimpa false
namespace Go.Proofs.Ytcahjmnkcdcbpaa
open Go.RowKit Go.Proofs.YtcahjmnkcdcbpaaW.PrintWords
attribute [local go_sem] max2_max min2_min max_of_two min_of_two

theorem byteCells_u8s {l : List Int} (h : Byt l) : Lib.byteCells (u8s l) = l.map (Value.int .u8) := by
  unfold Lib.byteCells u8s
  rw [List.map_map]
  apply List.map_congr_left
  intro x hx
  show Value.int .u8 _ = _
  rw [u8_back (h x hx).1 (h x hx).2]

/-- A Builder of the call's own that holds some bytes. -/
structure Bd (base : World) (b : Nat) (l : List Int) (w : World) : Prop where
  bd : Lib.IsBuilder BT U8 base.heap.size b (l.map (Value.int .u8)) w
  ext : Ext base w
theorem Bd.new (w : World) : Bd w w.heap.size [] (w.alloc (.cells #[.pointer none, .slice none 0 0] BT)) := ⟨Lib.fresh_isBuilder BT U8 w, (by repeat (first | with_reducible exact Ext.refl _ | with_reducible assumption | with_reducible apply Ext.alloc | with_reducible apply Ext.drew | with_reducible apply Ext.drewN | (with_reducible refine Ext.set' ?_ (by first | omega | (simp only [World.size_alloc, World.size_setCell]; omega))) | (with_reducible refine Ext.trans ?_ (by with_reducible assumption)) | (with_reducible refine Ext.only ?_ (by with_reducible assumption) (by omega))))⟩
theorem Bd.write {base : World} {b : Nat} {l : List Int} {w : World} (h : Bd base b l w) (c : Int) (hl : l.length ≤ 140737488355000) :
    Calls Try.prog 24 #[.pointer (some ⟨b, 0, none⟩), .int .u8 c] w fun e w' => e = .returned .nilIface ∧ Bd base b (l ++ [c]) w' := by
  with_reducible refine (write_any base.heap.size b _ c w h.bd (by rw [List.length_map]; omega) h.ext.le).mono ?_
  rintro e w' ⟨rfl, h1, k1⟩
  refine ⟨rfl, .inr ?_, ?_⟩
  · rw [List.map_append]; exact h1
  · exact Below.trans h.ext k1
theorem Bd.string {base : World} {b : Nat} {l : List Int} {w : World} (h : Bd base b l w) (hb : Byt l) :
    Calls Try.prog 25 #[.pointer (some ⟨b, 0, none⟩)] w fun e w' => e = .returned (.string (mkS l)) ∧ Ext base w' := by
  have h' : Lib.IsBuilder BT U8 base.heap.size b (Lib.byteCells (u8s l)) w := by rw [byteCells_u8s hb]; exact h.bd
  with_reducible refine (Try.Builder_String_any base.heap.size b (u8s l) w h' h.ext.le).mono ?_
  rintro e w' ⟨rfl, k1⟩
  exact ⟨rfl, Below.trans h.ext k1⟩

end Go.Proofs.Ytcahjmnkcdcbpaa
