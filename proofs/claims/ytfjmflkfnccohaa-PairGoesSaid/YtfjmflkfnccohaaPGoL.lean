/- A pair comes, with bits turned in one of its frames: what the checker tells (send of layer 27). -/
import Derived.Test.YtfjmflkfnccohaaPMake
import Derived.Test.YtfjmflkfnccohaaPair4
set_option linter.unusedSimpArgs false
set_option linter.unusedVariables false
set_option linter.unnecessarySimpa false
namespace Go.Proofs.Ytfjmflkfnccohaa
open Go.RowKit Go.Proofs.YtfjmflkfnccohaaW.PrintWords
attribute [local go_sem] max2_max min2_min max_of_two min_of_two bxF_fr stF_fr stF_fr2 stF_put ldF_put ldV_put ldF_new guard_eq guard_ne bin_eq bin_ne alF_fr bdF_none bdF_ask bdF_len bdF_dat ext_drew' ext_alloc
attribute [local go_sem ↓] ldF_in ldV_in bxF_in stF_in cvS_in alF_in bdF_in ixS_in
attribute [local go_sem] gUpon

def Told.own (B : Nat) (l : List Int) : Told Ext := ⟨fun u w => Own8 w B u l, fun _ _ _ h k => k.own h⟩
theorem Calls.told_own {P : Program} {f : FuncId} {args : Array Value} {W : World} {n : After W} {l : List Int}
    (h : Calls P f args n.wd fun e w' => ∃ v, e = .returned v ∧ Own8 w' n.wd.heap.size v l ∧ Ext n.wd w') : Calls P f args n.wd fun e w'' => ∃ u, e = .returned u ∧ (∃ m : After W, w'' = m.wd) ∧ Ext n.wd w'' ∧ (Told.own W.heap.size l).F u w'' :=
  h.mono fun _ w' ⟨v, he, ho, hk⟩ => ⟨v, he, ⟨⟨w', n.ext.trans hk⟩, rfl⟩, hk, ho.lower n.ext.le⟩

/-- Bytes of which the first i are turned where the pattern says so. -/
def xat (m T : List Int) (i j : Nat) : Int := if j < i then Go.bits .xor .u8 (m.getD j 0) (T.getD j 0) else m.getD j 0
theorem getD_set (l : List Int) (i j : Nat) (y : Int) (h : i < l.length) : (l.set i y).getD j 0 = if j = i then y else l.getD j 0 := by
  by_cases e : j = i
  · subst e
    rw [if_pos rfl, List.getD_eq_getElem?_getD, List.getElem?_set_self h]
    rfl
  · rw [if_neg e, List.getD_eq_getElem?_getD, List.getElem?_set_ne (fun x => e x.symm), ← List.getD_eq_getElem?_getD]
theorem xat_step {m T Z : List Int} {i n : Nat} (hi : i < n) (hn : Z.length = n) (h : ∀ j, j < n → Z.getD j 0 = xat m T i j) :
    ∀ j, j < n → (Z.set i (Go.bits .xor .u8 (Z.getD i 0) (T.getD i 0))).getD j 0 = xat m T (i + 1) j := by
  intro j hj
  rw [getD_set _ _ _ _ (by omega)]
  unfold xat
  by_cases e : j = i
  · subst e
    rw [if_pos rfl, if_pos (by omega), h j hj]
    unfold xat
    rw [if_neg (by omega)]
  · rw [if_neg e, h j hj]
    unfold xat
    by_cases e2 : j < i
    · rw [if_pos e2, if_pos (by omega)]
    · rw [if_neg e2, if_neg (by omega)]
theorem xor_self_iff {a b : Int} (h0 : 0 ≤ a) (h1 : a ≤ 255) (g0 : 0 ≤ b) (g1 : b ≤ 255) : Go.bits .xor .u8 a b = a ↔ b = 0 := by
  obtain ⟨p, rfl⟩ := Int.eq_ofNat_of_zero_le h0
  obtain ⟨q, rfl⟩ := Int.eq_ofNat_of_zero_le g0
  rw [u8_xor_nat p q (by omega) (by omega)]
  constructor
  · intro h
    have h' : p ^^^ q = p := by omega
    have : q = 0 := by
      have e : p ^^^ (p ^^^ q) = p ^^^ p := by rw [h']
      rw [← Nat.xor_assoc, Nat.xor_self, Nat.zero_xor] at e
      exact e
    omega
  · intro h
    have : q = 0 := by omega
    subst this
    rw [Nat.xor_zero]
theorem byt_getD {l : List Int} (h : Byt l) (j : Nat) : 0 ≤ l.getD j 0 ∧ l.getD j 0 ≤ 255 := by
  by_cases hj : j < l.length
  · exact h.at hj
  · rw [List.getD_eq_getElem?_getD, List.getElem?_eq_none (by omega)]
    decide
theorem ext_getD {a b : List Int} (hl : a.length = b.length) (h : ∀ j, j < a.length → a.getD j 0 = b.getD j 0) : a = b := by
  apply List.ext_getElem hl
  intro j h1 h2
  have := h j h1
  rwa [List.getD_eq_getElem?_getD, List.getD_eq_getElem?_getD, List.getElem?_eq_getElem h1, List.getElem?_eq_getElem h2] at this
/-- Is no bit turned in the first n bytes? -/
def zz (T : List Int) (n : Nat) : Bool := (T.take n).all (· == 0)
theorem zz_iff {T : List Int} {n : Nat} (h : n ≤ T.length) : zz T n = true ↔ ∀ j, j < n → T.getD j 0 = 0 := by
  unfold zz
  rw [List.all_eq_true]
  constructor
  · intro k j hj
    have := k (T.getD j 0) (by rw [List.mem_iff_getElem?]; refine ⟨j, ?_⟩; rw [List.getElem?_take_of_lt hj, List.getD_eq_getElem?_getD, List.getElem?_eq_getElem (by omega)]; rfl)
    simpa using this
  · intro k x hx
    obtain ⟨j, hj, e⟩ := List.mem_iff_getElem.1 hx
    have hj' : j < n := by rw [List.length_take] at hj; omega
    have := k j hj'
    rw [List.getElem_take] at e
    rw [List.getD_eq_getElem?_getD, List.getElem?_eq_getElem (by omega)] at this
    simp only [Option.getD_some] at this
    rw [e] at this
    simpa using this
theorem xat_end {m T Z : List Int} {n : Nat} (hm : m.length = n) (hZ : Z.length = n) (hT : n ≤ T.length) (bm : Byt m) (bT : Byt T) (h : ∀ j, j < n → Z.getD j 0 = xat m T n j) : (Z = m ↔ zz T n = true) ∧ Byt Z := by
  have h' : ∀ j, j < n → Z.getD j 0 = Go.bits .xor .u8 (m.getD j 0) (T.getD j 0) := fun j hj => by rw [h j hj]; unfold xat; rw [if_pos hj]
  refine ⟨?_, ?_⟩
  · rw [zz_iff hT]
    constructor
    · intro e j hj
      have := h' j hj
      rw [e] at this
      exact (xor_self_iff (byt_getD bm j).1 (byt_getD bm j).2 (byt_getD bT j).1 (byt_getD bT j).2).1 this.symm
    · intro k
      refine ext_getD (by omega) (fun j hj => ?_)
      rw [h' j (by omega)]
      exact (xor_self_iff (byt_getD bm j).1 (byt_getD bm j).2 (byt_getD bT j).1 (byt_getD bT j).2).2 (k j (by omega))
  · intro x hx
    obtain ⟨j, hj, e⟩ := List.mem_iff_getElem.1 hx
    have := h' j (by omega)
    rw [List.getD_eq_getElem?_getD, List.getElem?_eq_getElem hj, Option.getD_some, e] at this
    rw [this]
    exact xor_le (byt_getD bm j).1 (byt_getD bm j).2 (byt_getD bT j).1 (byt_getD bT j).2

end Go.Proofs.Ytfjmflkfnccohaa
