/- ConsWell: what its taker is from tick to tick; what stays. -/
import Derived.Test.YtocogmboocjjaaaCLive
import Derived.Test.YtocogmboocjjaaaRowOf
import Derived.Test.YtocogmboocjjaaaPMakeK
import Derived.Test.YtocogmboocjjaaaOpen
set_option linter.unusedSimpArgs false
set_option linter.unusedVariables false
set_option linter.unnecessarySimpa false
set_option maxRecDepth 100000
namespace Go.Proofs.Ytocogmboocjjaaa
open Go.RowKit Go.Proofs.YtocogmboocjjaaaW.PrintWords

/-- At work by the law's table: since when, when a first frame came (or has one), the first frame's bytes, the value. -/
def ws (T G s gs : Int) (h : Bool) (bb val : List Int) : Ts := ⟨true, tab2 T G, 0, ⟨1, h, bb, val⟩, ⟨true, s, T, h, gs, G⟩⟩
theorem wtk {n : Int} (h0 : 0 ≤ n) (h1 : n ≤ 2147483647) : tkB n = true := by unfold tkB; simp [h0, h1]
theorem wtick {n : Int} (h0 : 0 ≤ n) (h1 : n ≤ 2147483647) : tickB n = true := by unfold tickB; simp [h0, h1]
theorem wtks {T G : Int} (h0 : 1 ≤ T) (h1 : T ≤ 65535) (h2 : 1 ≤ G) (h3 : G ≤ 65535) : (tab2 T G).tks = true := by
  have e : (tab2 T G).tks = (mayB T && (mayB G && true)) := by
    unfold Ch.tks
    have : (tab2 T G).sz = 1 := by rfl
    rw [this]
    rfl
  rw [e]
  unfold mayB
  simp [h0, h1, h2, h3]
theorem ws_start {T G s : Int} (h0 : 1 ≤ T) (h1 : T ≤ 65535) (h2 : 1 ≤ G) (h3 : G ≤ 65535) (hf : 0 ≤ s) (hf1 : s ≤ 2147483647) : (Ts.rest 0).begin s true (tab2 T G) = (ws T G s 0 false [] [], 0) := by
  unfold Ts.begin
  rw [if_neg (by rw [wtk hf hf1]; simp [Ts.rest]), if_neg (by rw [wtks h0 h1 h2 h3]; simp), if_pos (.inl rfl)]
  unfold Ts.start Gd.wake
  rw [wtick hf hf1]
  rfl
theorem ws_begin {T G s gs now : Int} {h : Bool} {bb val : List Int} (h0 : 1 ≤ T) (h1 : T ≤ 65535) (h2 : 1 ≤ G) (h3 : G ≤ 65535) (hf : 0 ≤ now) (hf1 : now ≤ 2147483647) (a : now - s ≤ T) (b : h = true → now - gs ≤ G) : (ws T G s gs h bb val).begin now true (tab2 T G) = (ws T G s gs h bb val, 0) := by
  have hg : (ws T G s gs h bb val).gd.check now = 0 := by
    have e1 : decide (T < now - s) = false := by simp; omega
    cases h
    · show chk (true && tickB now) (true && decide (T < now - s)) (false && decide (G < now - gs)) = 0
      rw [wtick hf hf1, e1]
      rfl
    · have e2 : decide (G < now - gs) = false := by have := b rfl; simp; omega
      show chk (true && tickB now) (true && decide (T < now - s)) (true && decide (G < now - gs)) = 0
      rw [wtick hf hf1, e1, e2]
      rfl
  unfold Ts.begin
  rw [if_neg (by rw [wtk hf hf1]; simp [ws]), if_neg (by rw [wtks h0 h1 h2 h3]; simp), if_neg (by simp [ws, chEq_refl]), if_pos hg]
theorem wbyt {l : List Int} (h : Byt l) (j : Nat) : 0 ≤ l.getD j 0 ∧ l.getD j 0 ≤ 255 := by
  by_cases hj : j < l.length
  · exact h.at hj
  · rw [List.getD_eq_getElem?_getD, List.getElem?_eq_none (by omega)]
    decide
theorem wsmall {p : Int} {l : List Int} (h0 : 0 ≤ p) (h1 : p ≤ 2047) (hl : l.length ≤ 8) (hb : Byt l) : (mkFr p l).chk = 0 ∧ (mkFr p l).bytes = l ∧ Byt (mkFr p l).data := by
  have hp : ¬ (p < 0 ∨ 2047 < p) := by omega
  have key : (mkFr p l).chk = 0 ∧ (mkFr p l).data.take (mkFr p l).len.toNat = l := by
    rcases l with _ | ⟨a0, _ | ⟨a1, _ | ⟨a2, _ | ⟨a3, _ | ⟨a4, _ | ⟨a5, _ | ⟨a6, _ | ⟨a7, _ | ⟨a8, t⟩⟩⟩⟩⟩⟩⟩⟩⟩
    all_goals first | (exfalso; simp only [List.length_cons] at hl; omega; done) | (refine ⟨?_, rfl⟩; unfold Fr.chk; rw [if_neg (by exact hp), if_neg (by show ¬ (_ ∨ _); simp [mkFr])]; simp [mkFr, Fr.plain, frEq])
  refine ⟨key.1, ?_, ?_⟩
  · unfold Fr.bytes Fr.has
    rw [key.1]
    exact key.2
  · intro x hx
    have : ∃ j, x = l.getD j 0 := by
      simp only [mkFr, Fr.data, List.mem_cons, List.not_mem_nil, or_false] at hx
      rcases hx with rfl | rfl | rfl | rfl | rfl | rfl | rfl | rfl <;> exact ⟨_, rfl⟩
    obtain ⟨j, rfl⟩ := this
    exact wbyt hb j
theorem ws_first {T G s gs v now : Int} {val : List Int} (hf : 0 ≤ now) (hf1 : now ≤ 2147483647) (hv0 : 0 ≤ v) (hv1 : v ≤ 255) : (ws T G s gs false [] val).hear now (mkFr 257 [v]) = (ws T G s now true [v] val, [], 0) := by
  obtain ⟨m1, m2, m3⟩ := wsmall (p := 257) (l := [v]) (by omega) (by omega) (by show 1 ≤ 8; omega) (Byt.one hv0 hv1)
  have ht : (ws T G s gs false [] val).told (mkFr 257 [v]) = (⟨1, true, [v], val⟩, 1) := by
    unfold Ts.told
    refine (if_pos rfl).trans ?_
    rw [m2]
    rfl
  unfold Ts.hear
  rw [if_neg (by rw [wtk hf hf1, m1]; simp [ws, mkFr]), ht]
  unfold Ts.heard
  rw [if_pos rfl]
  have hg : (ws T G s gs false [] val).gd.half now = ⟨true, s, T, true, now, G⟩ := by
    unfold Gd.half
    rw [wtick hf hf1]
    rfl
  rw [hg]
  rfl
theorem ws_second {T G s gs v now : Int} {val : List Int} (hf : 0 ≤ now) (hf1 : now ≤ 2147483647) (hv0 : 0 ≤ v) (hv1 : v ≤ 255) : (ws T G s gs true [v] val).hear now (mkFr 258 (flipL [v])) = (ws T G now gs false [] [v], [v], 0) := by
  have hfb : Byt (flipL [v]) := flipL_byt (Byt.one hv0 hv1)
  obtain ⟨m1, m2, m3⟩ := wsmall (p := 258) (l := flipL [v]) (by omega) (by omega) (by rw [flipL_len]; show 1 ≤ 8; omega) hfb
  have hk : (⟨1, true, [v], val⟩ : Ck).turned (flipL [v]) = (⟨1, false, [], [v]⟩, 2) := by
    unfold Ck.turned
    rw [if_neg (by rw [flipL_len]; simp), if_neg (by simp), if_neg (by simp)]
  have ht : (ws T G s gs true [v] val).told (mkFr 258 (flipL [v])) = (⟨1, false, [], [v]⟩, 2) := by
    unfold Ts.told
    rw [m2]
    refine (if_neg (show ¬ (258 : Int) = 257 by decide)).trans ?_
    refine (if_pos rfl).trans ?_
    exact hk
  unfold Ts.hear
  rw [if_neg (by rw [wtk hf hf1, m1]; simp [ws, mkFr]), ht]
  unfold Ts.heard
  rw [if_neg (show ¬ (2 : Int) = 1 by decide), if_pos rfl]
  have hg : (ws T G s gs true [v] val).gd.whole now = ⟨true, now, T, false, gs, G⟩ := by
    unfold Gd.whole
    rw [wtick hf hf1]
    rfl
  rw [hg]
  rfl
theorem OwnF.keep {w w' : World} {base : Nat} {v : Value} {l : List Fr} (h : OwnF w base v l) (k : ∀ g cs, Blk w g cs FT → Blk w' g cs FT) : OwnF w' base v l := by
  obtain ⟨h0, h⟩ := h
  refine ⟨h0, ?_⟩
  rcases h with h | ⟨g, cap, cur, hv, hg, hh, r⟩
  · exact .inl h
  · exact .inr ⟨g, cap, cur, hv, hg, k g cur hh, r⟩
/-- What stands from pair to pair. -/
def WO (w : World) (b xb : Nat) (T G : Int) (wx : World) (st : Ts) : Prop := ∃ cb gb, TkAt wx b cb gb st ∧ (w.heap.size ≤ b ∧ w.heap.size ≤ cb ∧ w.heap.size ≤ gb) ∧ Blk wx xb (tab2 T G).cells CT ∧ Ext w wx
/-- What stands from tick to tick. -/
def WI (w : World) (b xb : Nat) (T G : Int) (B : Nat) (u bv : Value) (L : List Fr) (v : Int) (wx : World) (st : Ts) : Prop := WO w b xb T G wx st ∧ OwnF wx B u L ∧ Bt wx bv [v]
theorem WO.ext {w : World} {b xb : Nat} {T G : Int} {wx w' : World} {st : Ts} (h : WO w b xb T G wx st) (k : Ext wx w') : WO w b xb T G w' st := by
  obtain ⟨cb, gb, h1, h2, h3, h4⟩ := h
  exact ⟨cb, gb, h1.ext k, h2, k.blk h3, h4.trans k⟩
theorem WI.ext {w : World} {b xb : Nat} {T G : Int} {B : Nat} {u bv : Value} {L : List Fr} {v : Int} {wx w' : World} {st : Ts} (h : WI w b xb T G B u bv L v wx st) (k : Ext wx w') : WI w b xb T G B u bv L v w' st :=
  ⟨h.1.ext k, h.2.1.below k, h.2.2.ext k⟩
theorem WI.next {w : World} {b xb : Nat} {T G : Int} {B : Nat} {u bv : Value} {L : List Fr} {v : Int} {wx w' : World} {st st' : Ts} {cb gb cb' gb' : Nat} (h1 : TkAt wx b cb gb st) (h2 : w.heap.size ≤ b ∧ w.heap.size ≤ cb ∧ w.heap.size ≤ gb) (h3 : Blk wx xb (tab2 T G).cells CT) (h4 : Ext w wx)
    (h5 : OwnF wx B u L) (h6 : Bt wx bv [v]) (o : O3 b cb gb wx w') (ht : TkAt w' b cb' gb' st') (n1 : Nx wx b cb cb') (n2 : Nx wx b gb gb') : WI w b xb T G B u bv L v w' st' :=
  ⟨⟨cb', gb', ht, ⟨h2.1, n1.le h2.1 h2.2.1 h4.le, n2.le h2.1 h2.2.2 h4.le⟩, h1.keep o h3 (by decide) (by decide) (by decide), o.ext h4 h2.1 h2.2.1 h2.2.2⟩, h5.keep (fun g cs hg => h1.keep o hg (by decide) (by decide) (by decide)), h1.bt o h6⟩

theorem OwnF.ld2 {w : World} {B gu cu : Nat} {F H : Fr} (h : OwnF w B (.slice (some ⟨gu, 0, none⟩) 2 cu) [F, H]) : (ldF (.pointer (some ⟨gu, 0, none⟩))).run Try.prog w = .ok F.val w ∧ (ldF (.pointer (some ⟨gu, 11, none⟩))).run Try.prog w = .ok H.val w := by
  obtain ⟨g, c, e, _, hh⟩ := h.frs (by simp)
  injection e with e1 _ _
  injection e1 with e1
  injection e1 with e1 _ _
  subst e1
  exact ⟨by simpa using hh 0 F rfl w (Ext.refl w), by simpa using hh 1 H rfl w (Ext.refl w)⟩
/-- The taker at the n-th tick of a pair. -/
def stw (T G now gs fst sec v : Int) (val : List Int) (n : Int) : Ts := if n ≤ fst then ws T G now gs false [] val else if n ≤ fst + sec then ws T G now (now + fst) true [v] val else ws T G (now + fst + sec) (now + fst) false [] [v]
theorem stw_begin {T G now gs fst sec v n : Int} {val : List Int} (h0 : 1 ≤ T) (h1 : T ≤ 60) (h2 : 1 ≤ G) (h3 : G ≤ 60) (hn : 0 ≤ now) (hn1 : now ≤ 100000) (n0 : 0 ≤ n) (n1 : n ≤ fst + sec) (f0 : 0 ≤ fst) (s0 : 0 ≤ sec) (fs : fst + sec ≤ T) (sg : sec ≤ G) :
    (stw T G now gs fst sec v val n).begin (now + n) true (tab2 T G) = (stw T G now gs fst sec v val n, 0) := by
  by_cases hf : n ≤ fst
  · unfold stw
    rw [if_pos hf]
    exact ws_begin h0 (by omega) h2 (by omega) (by omega) (by omega) (by omega) (fun h => by cases h)
  · unfold stw
    rw [if_neg hf, if_pos n1]
    exact ws_begin h0 (by omega) h2 (by omega) (by omega) (by omega) (by omega) (fun _ => by omega)
/-- Three bytes. -/
structure Tp where
  a : Int
  b : Int
  c : Int
def Tp.cells (t : Tp) : List Value := [.int .u8 t.a, .int .u8 t.b, .int .u8 t.c]
def Tp.ok (t : Tp) : Prop := (0 ≤ t.a ∧ t.a ≤ 255) ∧ (0 ≤ t.b ∧ t.b ≤ 255) ∧ 0 ≤ t.c ∧ t.c ≤ 255
theorem dec_tp {W : World} (es : List Value) (hl : es.length = 3) (h : Rd Try.prog W 54 es) : ∃ t : Tp, t.cells = es ∧ t.ok := by
  have key : ∀ j, j < 3 → ∃ n, es[j]? = some (.int .u8 n) ∧ (Lit.int .u8 n).wf = true := fun j hj => h.elemInt Try.underlying54 Try.underlying5 (by kernel_rfl) j hj
  obtain ⟨d0, e0, g0⟩ := key 0 (by omega)
  obtain ⟨d1, e1, g1⟩ := key 1 (by omega)
  obtain ⟨d2, e2, g2⟩ := key 2 (by omega)
  refine ⟨⟨d0, d1, d2⟩, ?_, wf_u8 g0, wf_u8 g1, wf_u8 g2⟩
  rcases es with _ | ⟨a0, _ | ⟨a1, _ | ⟨a2, _ | _⟩⟩⟩ <;> simp at hl
  simp at e0 e1 e2
  simp [Tp.cells, e0, e1, e2]

end Go.Proofs.Ytocogmboocjjaaa
