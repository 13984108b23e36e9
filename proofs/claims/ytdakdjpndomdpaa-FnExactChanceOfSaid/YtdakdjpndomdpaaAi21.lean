/- The abstract machine, part 21: rows that grow. Nothing about the program stands here. -/
import Derived.Test.YtdakdjpndomdpaaAi20
set_option linter.unusedVariables false
set_option linter.unusedSimpArgs false
namespace Go.Ai
variable {P : Program} {W0 : World} {D : Rules} {e : Env} {h : Heap} {Q : QT} {K : KT}

/-- The block of a slice. -/
def blockOf : Value → Option Nat
  | .slice (some a) _ _ => some a.block
  | _ => none
/-- A row of one's own, made since there were N blocks, all of whose cells are told; or none at all. -/
def Own (N : Nat) (h : Heap) (v : Value) (z n : Nat) (cs : List Value) : Prop :=
  cs.length = n * z ∧ ∃ a c, v = .slice a n c ∧ ((a = none ∧ n = 0) ∨ ∃ b, a = some ⟨b, 0, none⟩ ∧ N ≤ b ∧ b < hn h .mk ∧ hg h b .mk = some ⟨true, z, cs⟩)

theorem Own.keep {N : Nat} {h h' : Heap} {v : Value} {z n : Nat} {cs : List Value} (o : Own N h v z n cs) (l : h.le h') : Own N h' v z n cs := by
  obtain ⟨h1, a, c, h2, h3⟩ := o
  refine ⟨h1, a, c, h2, h3.imp_right ?_⟩
  rintro ⟨b, e1, e2, e3, e4⟩
  exact ⟨b, e1, e2, Nat.lt_of_lt_of_le e3 l.n, by rw [l.keep b e3]; exact e4⟩
theorem Own.nil {N : Nat} {h : Heap} {z c : Nat} : Own N h (.slice none 0 c) z 0 [] := ⟨by simp, none, c, rfl, .inl ⟨rfl, rfl⟩⟩
theorem Own.row {N : Nat} {h : Heap} {v : Value} {n : Nat} {cs : List Value} (o : Own N h v 1 n cs) : ∃ a c, v = .slice a n c ∧ Row1 h a n cs := by
  obtain ⟨h1, a, c, h2, h3⟩ := o
  refine ⟨a, c, h2, by omega, fun i hi => ?_⟩
  rcases h3 with ⟨_, h3⟩ | ⟨b, e1, e2, e3, e4⟩
  · omega
  · exact ⟨b, 0, true, 1, cs, e1, e4, e3, by simp⟩

/-- One more element. -/
theorem append_own {t u T z y N n b2 c2 z2 : Nat} {w2 : Bool} {zs cs news : List Value} {x : Value} (he : elt? P t = some (T, z + 1, y)) (hz : zr? P T = some zs) (hl : zs.length = z + 1) (hu : cls? P u = some .sl)
    (hx : Own N h x (z + 1) n cs) (hN0 : N ≤ hn h .mk) (hn0 : (n + 1) * (y + 1) ≤ most) (h2 : hg h b2 .mk = some ⟨w2, z2, news⟩) (hnl : news.length = z + 1) (hok : news.all okCell = true)
    (hk : ∀ v' h', Own N h' v' (z + 1) (n + 1) (cs ++ news) → hn h .mk ≤ hn h' .mk → (∀ h0 : Heap, hn h0 .mk ≤ N → h0.le h → h0.le h') → (∀ b, b < hn h .mk → blockOf x ≠ some b → hg h' b .mk = hg h b .mk) → kz K v' h' .mk) :
    az (biz P h .append [t, u] [x, .slice (some ⟨b2, 0, none⟩) 1 c2] .mk) K .mk := by
  obtain ⟨hlen, a, c, rfl, hcase⟩ := hx
  have h2' : h.get b2 = some ⟨w2, z2, news⟩ := h2
  have hrd : rd news 0 (1 * (z + 1)) = some news := by rw [rd_all]; omega
  rcases hcase with ⟨rfl, rfl⟩ | ⟨b, rfl, hNb, hbn, hb⟩
  · have hcs : cs = [] := List.eq_nil_of_length_eq_zero (by omega)
    subst hcs
    have e1 : biz P h .append [t, u] [.slice none 0 c, .slice (some ⟨b2, 0, none⟩) 1 c2] .mk = some (.slice (some ⟨h.n, 0, none⟩) 1 1, h.push ⟨true, z + 1, news⟩) := by
      simp only [biz, builtinV, hu, if_true, appendV, he, srcV, h2', hrd, Option.map_some, hz]
      rw [if_pos ⟨hl, hn0, hok⟩, if_neg (by decide)]
    rw [e1]
    have hmk : (h.n == h.n) = true := by simp
    refine hk _ _ ⟨by simp; omega, _, _, rfl, .inr ⟨h.n, rfl, ?_, ?_, ?_⟩⟩ ?_ ?_ ?_
    · exact hN0
    · simp [hn, Heap.push]
    · simp [hg, Heap.push]
    · simp [hn, Heap.push]
    · intro h0 _ l0; exact le_push l0
    · intro b' hb' _
      simp only [hg, Heap.push]; rw [if_neg (by unfold hn at hb'; omega)]
  · have hb' : h.get b = some ⟨true, z + 1, cs⟩ := hb
    have e1 : biz P h .append [t, u] [.slice (some ⟨b, 0, none⟩) n c, .slice (some ⟨b2, 0, none⟩) 1 c2] .mk = some (.slice (some ⟨h.n, 0, none⟩) (n + 1) (n + 1), (h.kill b).push ⟨true, z + 1, cs ++ news⟩) := by
      simp only [biz, builtinV, hu, if_true, appendV, he, srcV, h2', hrd, Option.map_some, hz, hb']
      rw [if_pos ⟨hl, hn0, hok⟩, if_neg (by decide), if_pos ⟨trivial, trivial, trivial⟩, rd_all hlen]
      rfl
    rw [e1]
    have hne : ¬ b = h.n := by unfold hn at hbn; omega
    refine hk _ _ ⟨by simp [hlen, hnl, Nat.add_mul], _, _, rfl, .inr ⟨h.n, rfl, ?_, ?_, ?_⟩⟩ ?_ ?_ ?_
    · unfold hn at hbn; omega
    · simp [hn, Heap.push, Heap.kill]
    · simp [hg, Heap.push, Heap.kill]
    · simp [hn, Heap.push, Heap.kill]
    · intro h0 hN l0; exact le_push (le_kill l0 (by omega))
    · intro b' hb2 hne'
      have hbb : ¬ b' = b := fun e => hne' (by rw [e]; rfl)
      have h5 : ¬ b' = h.n := by unfold hn at hb2; omega
      simp [hg, Heap.push, Heap.kill, h5, hbb]
/-- One more element, out of a row that was made for it. -/
theorem append_push {t u T z y N n c2 z2 : Nat} {zs cs news : List Value} {x : Value} (he : elt? P t = some (T, z + 1, y)) (hz : zr? P T = some zs) (hl : zs.length = z + 1) (hu : cls? P u = some .sl)
    (hx : Own N h x (z + 1) n cs) (hN0 : N ≤ hn h .mk) (hn0 : (n + 1) * (y + 1) ≤ most) (hnl : news.length = z + 1) (hok : news.all okCell = true)
    (hk : ∀ v' h', Own N h' v' (z + 1) (n + 1) (cs ++ news) → hn h .mk ≤ hn h' .mk → (∀ h0 : Heap, hn h0 .mk ≤ N → h0.le h → h0.le h') → (∀ b, b < hn h .mk → blockOf x ≠ some b → hg h' b .mk = hg h b .mk) → kz K v' h' .mk) :
    az (biz P (h.push ⟨true, z2, news⟩) .append [t, u] [x, .slice (some ⟨hn h .mk, 0, none⟩) 1 c2] .mk) K .mk := by
  have hl1 : hn (h.push ⟨true, z2, news⟩) .mk = hn h .mk + 1 := rfl
  refine append_own he hz hl hu (hx.keep (Heap.le_push _ _)) (by omega) hn0 (b2 := hn h .mk) (w2 := true) (z2 := z2) (news := news) ?_ hnl hok ?_
  · rw [hg_push, show (hn h .mk == hn h .mk) = true by simp]; rfl
  · intro v' h' h1 h2 h3 h4
    refine hk v' h' h1 (by omega) (fun h0 hN l => h3 h0 hN (le_push l)) fun b hb hne => ?_
    rw [h4 b (by omega) hne]
    exact (Heap.le_push h _).keep b hb
end Go.Ai
