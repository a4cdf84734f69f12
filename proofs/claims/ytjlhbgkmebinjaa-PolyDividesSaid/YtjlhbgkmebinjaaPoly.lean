import Derived.Test.YtjlhbgkmebinjaaBytes
import Derived.Test.YtjlhbgkmebinjaaPure2
import Derived.Deep.LoopGhost
import Derived.Deep.RegionHeld3
import Derived.Deep.DeepCutAuto
import Derived.Deep.CutBlock
import Derived.IntWalk
set_option linter.unusedSimpArgs false
set_option linter.unusedVariables false
set_option linter.unnecessarySimpa false
namespace Go.Proofs.Ytjlhbgkmebinjaa
open Go.RowKit Go.Proofs.YtjlhbgkmebinjaaW.PrintWords
open Go.Proofs.Ytjlhbgkmebinjaa.Pure (foldO)
attribute [local go_sem] max2_max min2_min max_of_two min_of_two

/-- 'fold' over 'feed'. -/
theorem fold_feed (W L : Int) (A : Option Addr) (bl o c : Nat) (l : List Int) (r r' : Int) (w : World) (hl : Row8 w A bl o l) (h : foldO (PPolyPieces.poly_Poly_feed.f W L) r l = some r') :
    Calls Try.prog 23 #[.func (.func 24) #[.agg #[.int .i64 W, .int .u32 L]] #[], .int .u32 r, .slice A l.length c] w fun e w' => e = .returned (.int .u32 r') ∧ Below w.heap.size w w' := by
  have hlen := hl.1
  have HL := hid hl
  have H := hid h
  have B0 := hid (Below.refl w.heap.size w)
  clear hl h
  go_enter Try.func23, Try.ntmps23
  go_wp2_with fail
  go_loopg [1, 11] l.length (fun k v1 v11 wr => ∃ (i : Nat) (x : Int), i + k = l.length ∧ v11 = .int .i64 i ∧ v1 = .int .u32 x ∧ Hid (foldO (PPolyPieces.poly_Poly_feed.f W L) x (l.drop i) = some r') ∧ Hid (Below w.heap.size w wr))
  case atStart => exact ⟨0, r, by omega, rfl, rfl, H, B0⟩
  case round =>
    clear B0 H
    obtain ⟨i, x, hik, rfl, rfl, HF, HB⟩ := hrel
    by_cases hlt : i < l.length
    · obtain ⟨rfl, hbl⟩ := HL.out.2.1 (by omega)
      have hc : wr.cell? ⟨bl, o + i, none⟩ = some (.int .u8 (l.getD i 0)) := (HB.out.cell (p := ⟨bl, o + i, none⟩) hbl).trans (HL.out.2.2 i hlt)
      have hf := HF.out
      rw [List.drop_eq_getElem_cons hlt] at hf
      have hget : l[i] = l.getD i 0 := by simp [List.getD_eq_getElem?_getD, hlt]
      rw [hget] at hf
      generalize l.getD i 0 = y at *
      simp only [foldO] at hf
      obtain ⟨x', hx', hf'⟩ := Option.bind_eq_some_iff.1 hf
      have HX := hid hx'
      have HF' := hid hf'
      clear hf hx' hf' hget
      go_wp2_with fail
      refine (PPolyPieces.poly_Poly_feed.calls W L x y x' _ HX.out).mono ?_
      rintro e w1 ⟨rfl, k1⟩
      have HB1 := hid (HB.out.trans (k1.mono HB.out.size))
      clear k1
      go_wp2_with fail
      go_roundg (gk - 1)
      case rel => exact ⟨i + 1, x', by omega, by go_num, rfl, HF', HB1⟩
      case measure => omega
    · have hx : foldO (PPolyPieces.poly_Poly_feed.f W L) x (l.drop i) = some x := by rw [List.drop_eq_nil_of_le (by omega)]; rfl
      have hh := HF.out
      rw [hx] at hh
      obtain rfl := Option.some.inj hh
      clear hx hh
      go_wp2_with fail
      go_ret
      exact ⟨rfl, HB.out⟩

/-- 'fold' over 'push'. -/
theorem fold_push (W L : Int) (A : Option Addr) (bl o c : Nat) (l : List Int) (r r' : Int) (w : World) (hl : Row8 w A bl o l) (h : foldO (Ppush.poly_Poly_push.f W L) r l = some r') :
    Calls Try.prog 23 #[.func (.func 28) #[.agg #[.int .i64 W, .int .u32 L]] #[], .int .u32 r, .slice A l.length c] w fun e w' => e = .returned (.int .u32 r') ∧ Below w.heap.size w w' := by
  have hlen := hl.1
  have HL := hid hl
  have H := hid h
  have B0 := hid (Below.refl w.heap.size w)
  clear hl h
  go_enter Try.func23, Try.ntmps23
  go_wp2_with fail
  go_loopg [1, 11] l.length (fun k v1 v11 wr => ∃ (i : Nat) (x : Int), i + k = l.length ∧ v11 = .int .i64 i ∧ v1 = .int .u32 x ∧ Hid (foldO (Ppush.poly_Poly_push.f W L) x (l.drop i) = some r') ∧ Hid (Below w.heap.size w wr))
  case atStart => exact ⟨0, r, by omega, rfl, rfl, H, B0⟩
  case round =>
    clear B0 H
    obtain ⟨i, x, hik, rfl, rfl, HF, HB⟩ := hrel
    by_cases hlt : i < l.length
    · obtain ⟨rfl, hbl⟩ := HL.out.2.1 (by omega)
      have hc : wr.cell? ⟨bl, o + i, none⟩ = some (.int .u8 (l.getD i 0)) := (HB.out.cell (p := ⟨bl, o + i, none⟩) hbl).trans (HL.out.2.2 i hlt)
      have hf := HF.out
      rw [List.drop_eq_getElem_cons hlt] at hf
      have hget : l[i] = l.getD i 0 := by simp [List.getD_eq_getElem?_getD, hlt]
      rw [hget] at hf
      generalize l.getD i 0 = y at *
      simp only [foldO] at hf
      obtain ⟨x', hx', hf'⟩ := Option.bind_eq_some_iff.1 hf
      have HX := hid hx'
      have HF' := hid hf'
      clear hf hx' hf' hget
      go_wp2_with fail
      refine (Ppush.poly_Poly_push.calls W L x y x' _ HX.out).mono ?_
      rintro e w1 ⟨rfl, k1⟩
      have HB1 := hid (HB.out.trans (k1.mono HB.out.size))
      clear k1
      go_wp2_with fail
      go_roundg (gk - 1)
      case rel => exact ⟨i + 1, x', by omega, by go_num, rfl, HF', HB1⟩
      case measure => omega
    · have hx : foldO (Ppush.poly_Poly_push.f W L) x (l.drop i) = some x := by rw [List.drop_eq_nil_of_le (by omega)]; rfl
      have hh := HF.out
      rw [hx] at hh
      obtain rfl := Option.some.inj hh
      clear hx hh
      go_wp2_with fail
      go_ret
      exact ⟨rfl, HB.out⟩

end Go.Proofs.Ytjlhbgkmebinjaa
