/- Appends as run equations, for regions that draw. -/
import Derived.Test.YtpdomjinhbnmfaaLn
set_option linter.unusedSimpArgs false
set_option linter.unusedVariables false
set_option linter.unnecessarySimpa false
set_option maxRecDepth 100000
namespace Go.Proofs.Ytpdomjinhbnmfaa
open Go.RowKit Go.Proofs.YtpdomjinhbnmfaaW.PrintWords

noncomputable def ap8 (l : Array Value) : Sem Value := Builtin.append_ #[S8, S8] S8 l
theorem ap8_in (l : Array Value) : Builtin.append_ #[S8, S8] S8 l = ap8 l := rfl
noncomputable def apL (l : Array Value) : Sem Value := Builtin.append_ #[LR, LR] LR l
theorem apL_in (l : Array Value) : Builtin.append_ #[LR, LR] LR l = apL l := rfl
theorem app8_run {W : World} {base : Nat} {v u : Value} {l m : List Int} (hown : Own8 W base v l) (hu : Bs W u m) (hlen : l.length + m.length ≤ 1000000) (hbase : base ≤ W.heap.size) :
    ∃ v' w', (ap8 #[v, u]).run Try.prog W = .ok v' w' ∧ Own8 w' base v' (l ++ m) ∧ Below base W w' ∧ Keep8 W w' ∧ (v = .slice none 0 0 → Ext W w') := by
  obtain ⟨A, bl, o, c, rfl, _, hm, _⟩ := hu
  unfold ap8
  obtain ⟨i0, hi, hz0, hz1, hz2⟩ := info_parts infoU8
  have fin : ∀ v' w', Own8 w' base v' (l ++ m) → W.grownBy w' v.ownBlock → Own8 w' base v' (l ++ m) ∧ Below base W w' ∧ Keep8 W w' ∧ (v = .slice none 0 0 → Ext W w') := fun v' w' ho hg => by
    refine ⟨ho, (Below.refl base W).grown hg hbase (fun k hk => ?_), ⟨hg.size, fun g cs t hb ht => ?_⟩, fun hv => ?_⟩
    · rcases hown.2 with ⟨rfl, _⟩ | ⟨g', cap, cur, rfl, hb', _⟩
      · simp [Value.ownBlock] at hk
      · have : g' = k := by simpa [Value.ownBlock] using hk
        omega
    · have h4 := own_apart hown hb ht
      have := hg.block g hb.lt (fun e => h4 e.symm)
      unfold Blk at hb ⊢
      rw [this]
      exact hb
    · subst hv
      exact (Below.refl _ W).grown hg (Nat.le_refl _) (fun k hk => by simp [Value.ownBlock] at hk)
  rcases A with _ | ad
  · obtain rfl : m = [] := by
      rcases Nat.eq_zero_or_pos m.length with h0 | h0
      · exact List.eq_nil_of_length_eq_zero h0
      · cases (hm.2.1 h0).1
    refine ⟨v, W, ?_, fin v W (by simpa using hown) (World.grownBy.refl W _)⟩
    rcases hown.2 with ⟨rfl, hn⟩ | ⟨g, cap, cur, rfl, _, _, hnc, _⟩
    · simp [Builtin.append_, run_underlying Try.underlying22, sizeOf, typeInfo, hi, Builtin.lenOf, Builtin.firstCells]
    · simp [Builtin.append_, run_underlying Try.underlying22, sizeOf, typeInfo, hi, Builtin.lenOf, Builtin.firstCells, hnc, storeCells]
  · obtain ⟨v', w', hrun, ho, hg, _⟩ := run_append_own (P := Try.prog) W base S8 S8 U8 i0 (.int .u8 0) 1 1 Try.underlying22 hi hz0 hz1 hz2 rfl (by decide) v l.length (nums .u8 l) hown ad m.length c (nums .u8 m) (by simp [nums]) (fun j u hj => by
      simp only [nums, List.getElem?_map] at hj
      obtain ⟨x, hx, rfl⟩ := Option.map_eq_some_iff.1 hj
      have hlt := (List.getElem?_eq_some_iff.1 hx).1
      obtain rfl := Option.some.inj (hm.2.1 (by omega)).1
      rw [Go.Proofs.Ytpdomjinhbnmfaa.add_plain, hm.2.2 j hlt, List.getD_eq_getElem?_getD, hx]
      rfl) (fun u hu => by simp only [nums, List.mem_map] at hu; obtain ⟨x, _, rfl⟩ := hu; rfl) (by unfold maxLen; omega) (by omega) hbase
    refine ⟨v', w', hrun, fin v' w' ?_ hg⟩
    show w'.ownsRow base U8 1 v' (l ++ m).length (nums .u8 (l ++ m))
    rw [List.length_append]
    simpa [nums] using ho
def Told.o8 (B : Nat) (l : List Int) : Told Ext := ⟨fun u w => Own8 w B u l, fun _ _ _ h k => h.below k⟩

variable {α : Type} (L : Lay α)
theorem appR_run {W : World} {base : Nat} {v : Value} {l m : List α} {A : Option Addr} {bl o c : Nat} (hown : OwnR L W base v l) (hm : RowOf L.enc L.k W A bl o m) (hlen : l.length + m.length ≤ 1000000) (hbase : base ≤ W.heap.size) :
    ∃ v' w', (Builtin.append_ #[L.S, L.S] L.S #[v, .slice A m.length c]).run Try.prog W = .ok v' w' ∧ OwnR L w' base v' (l ++ m) ∧ Below base W w' ∧ KeepR L.T W w' ∧ (v = .slice none 0 0 → Ext W w') ∧ (∀ k, k < W.heap.size → v.ownBlock ≠ some k → w'.heap[k]? = W.heap[k]?) := by
  obtain ⟨i0, hi, hz0, hz1, hz2⟩ := info_parts L.info
  have fin : ∀ v' w', OwnR L w' base v' (l ++ m) → W.grownBy w' v.ownBlock → OwnR L w' base v' (l ++ m) ∧ Below base W w' ∧ KeepR L.T W w' ∧ (v = .slice none 0 0 → Ext W w') ∧ (∀ k, k < W.heap.size → v.ownBlock ≠ some k → w'.heap[k]? = W.heap[k]?) := fun v' w' ho hg => by
    refine ⟨ho, (Below.refl base W).grown hg hbase (fun k hk => ?_), ⟨hg.size, fun g cs t hb ht => ?_⟩, fun hv => ?_, fun k hk hne => hg.block k hk (fun e => hne e.symm)⟩
    · rcases hown.2 with ⟨rfl, _⟩ | ⟨g', cap, cur, rfl, hb', _⟩
      · simp [Value.ownBlock] at hk
      · have : g' = k := by simpa [Value.ownBlock] using hk
        omega
    · have h4 := hown.apart hb ht
      have := hg.block g hb.lt (fun e => h4 e.symm)
      unfold Blk at hb ⊢
      rw [this]
      exact hb
    · subst hv
      exact (Below.refl _ W).grown hg (Nat.le_refl _) (fun k hk => by simp [Value.ownBlock] at hk)
  rcases A with _ | ad
  · obtain rfl : m = [] := by
      rcases Nat.eq_zero_or_pos m.length with h0 | h0
      · exact List.eq_nil_of_length_eq_zero h0
      · cases (hm.2.1 h0).1
    refine ⟨v, W, ?_, fin v W (by simpa using hown) (World.grownBy.refl W _)⟩
    rcases hown.2 with ⟨rfl, hn⟩ | ⟨g, cap, cur, rfl, _, _, hnc, _⟩
    · simp [Builtin.append_, run_underlying L.under, sizeOf, typeInfo, hi, Builtin.lenOf, Builtin.firstCells]
    · simp [Builtin.append_, run_underlying L.under, sizeOf, typeInfo, hi, Builtin.lenOf, Builtin.firstCells, hnc, storeCells]
  · obtain ⟨v', w', hrun, ho, hg, _⟩ := run_append_own (P := Try.prog) W base L.S L.S L.T i0 L.z L.k L.bytes L.under hi hz0 hz1 hz2 L.hz L.hk v l.length (L.cs l) hown ad m.length c (L.cs m) (L.cs_len m) (fun j u hj => by
      have hjl := (List.getElem?_eq_some_iff.1 hj).1
      rw [L.cs_len] at hjl
      obtain rfl := Option.some.inj (hm.2.1 (Nat.pos_of_ne_zero (fun h0 => by rw [h0, Nat.zero_mul] at hjl; omega))).1
      have hq : j / L.k < m.length := Nat.div_lt_of_lt_mul (by rw [Nat.mul_comm]; exact hjl)
      have hx : m[j / L.k]? = some m[j / L.k] := List.getElem?_eq_getElem hq
      have hjm : j % L.k < L.k := Nat.mod_lt _ L.hk
      have he : (L.enc m[j / L.k])[j % L.k]? = some ((L.enc m[j / L.k])[j % L.k]'(by rw [L.len]; exact hjm)) := List.getElem?_eq_getElem _
      have h1 := L.cs_at m (j / L.k) (j % L.k) _ _ hx he
      rw [Nat.div_add_mod' j L.k, hj] at h1
      have h2 := hm.2.2 (j / L.k) _ hx (j % L.k) _ he
      injection h1 with h1
      subst h1
      rw [Go.Proofs.Ytpdomjinhbnmfaa.add_plain, ← h2]
      congr 2
      have := Nat.div_add_mod' j L.k
      omega) (fun u hu => by
        obtain ⟨x, _, hx⟩ := List.mem_flatMap.1 hu
        exact L.one x u hx) (by unfold maxLen; omega) (by have := Nat.mul_le_mul hlen L.hb; omega) hbase
    refine ⟨v', w', hrun, fin v' w' ?_ hg⟩
    show w'.ownsRow base L.T L.k v' (l ++ m).length (L.cs (l ++ m))
    rw [List.length_append, L.cs_append]
    exact ho

theorem apL_run {W : World} {base : Nat} {v : Value} {l m : List Ln} {A : Option Addr} {bl o c : Nat} (hown : OwnR lnLay W base v l) (hm : RowOf lnLay.enc lnLay.k W A bl o m) (hlen : l.length + m.length ≤ 1000000) (hbase : base ≤ W.heap.size) :
    ∃ v' w', (apL #[v, .slice A m.length c]).run Try.prog W = .ok v' w' ∧ OwnR lnLay w' base v' (l ++ m) ∧ Below base W w' ∧ KeepR LT W w' ∧ (v = .slice none 0 0 → Ext W w') ∧ (∀ k, k < W.heap.size → v.ownBlock ≠ some k → w'.heap[k]? = W.heap[k]?) := appR_run lnLay hown hm hlen hbase
def Told.rl (B : Nat) (l : List Ln) : Told Ext := ⟨fun u w => OwnR lnLay w B u l, fun _ _ _ h k => h.below k⟩

end Go.Proofs.Ytpdomjinhbnmfaa
