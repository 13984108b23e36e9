/- The abstract machine, part 20: heaps that only grow, rows of single cells, new rows. Nothing about the program stands here. -/
import Derived.Test.YtdakdjpndomdpaaAi18
set_option linter.unusedVariables false
set_option linter.unusedSimpArgs false
namespace Go.Ai
variable {P : Program} {W0 : World} {D : Rules} {e : Env} {h : Heap} {Q : QT} {K : KT}

theorem Heap.le.keep {h h' : Heap} (l : h.le h') : ∀ b, b < hn h .mk → hg h' b .mk = hg h b .mk := fun b hb => l.2 b hb
theorem Heap.le.n {h h' : Heap} (l : h.le h') : hn h .mk ≤ hn h' .mk := l.1
theorem lt_S {a b : Nat} (h : a < b) : (a < b + 1) = True := eq_true (by omega)
theorem lt_self' {a : Nat} : (a < a + 1) = True := eq_true (by omega)
theorem beq_lt {a b : Nat} (h : a < b) : (a == b) = false := by simp; omega
theorem beq_S1 {a : Nat} : (a + 1 == a) = false := by simp
theorem beq_S2 {a : Nat} : (a + 1 + 1 == a) = false := by simp; omega
theorem beq_S3 {a : Nat} : (a + 1 + 1 + 1 == a) = false := by simp; omega
theorem beq_S4 {a : Nat} : (a + 1 + 1 + 1 + 1 == a) = false := by simp; omega
theorem beq_SS {a b : Nat} : (a + 1 == b + 1) = (a == b) := by rw [Bool.eq_iff_iff]; simp
theorem beq_R1 {a : Nat} : (a == a + 1) = false := by simp
theorem beq_R2 {a : Nat} : (a == a + 1 + 1) = false := by simp; omega
theorem beq_R3 {a : Nat} : (a == a + 1 + 1 + 1) = false := by simp; omega
theorem beq_R4 {a : Nat} : (a == a + 1 + 1 + 1 + 1) = false := by simp; omega
theorem le_set {h h' : Heap} {b : Nat} {k : Blk} (l : h.le h') (hb : hn h .mk ≤ b) : h.le (h'.set b k) :=
  ⟨l.1, fun c hc => by have : ¬ c = b := by unfold hn at hb; omega
                       simp only [Heap.set, if_neg this]; exact l.2 c hc⟩
theorem le_push {h h' : Heap} {k : Blk} (l : h.le h') : h.le (h'.push k) := Heap.le_trans l (Heap.le_push _ _)
theorem le_kill {h h' : Heap} {b : Nat} (l : h.le h') (hb : hn h .mk ≤ b) : h.le (h'.kill b) :=
  ⟨l.1, fun c hc => by have : ¬ c = b := by unfold hn at hb; omega
                       simp only [Heap.kill, if_neg this]; exact l.2 c hc⟩
theorem push_set {k k' : Blk} : (h.push k).set (hn h .mk) k' = h.push k' := by
  unfold Heap.set Heap.push hn; congr 1; funext x; by_cases hx : x = h.n <;> simp [hx]

/-- A row of single cells. -/
def Row1 (h : Heap) (a : Option Addr) (n : Nat) (xs : List Value) : Prop :=
  n = xs.length ∧ ∀ i, i < n → ∃ b off w z cs, a = some ⟨b, off, none⟩ ∧ hg h b .mk = some ⟨w, z, cs⟩ ∧ b < hn h .mk ∧ cs[off + i]? = xs[i]?
theorem Row1.mono {h h' : Heap} {a : Option Addr} {n : Nat} {xs : List Value} (r : Row1 h a n xs) (l : h.le h') : Row1 h' a n xs :=
  ⟨r.1, fun i hi => by
    obtain ⟨b, off, w, z, cs, h1, h2, h3, h4⟩ := r.2 i hi
    exact ⟨b, off, w, z, cs, h1, by rw [l.keep b h3]; exact h2, Nat.lt_of_lt_of_le h3 l.n, h4⟩⟩
theorem Row1.new {xs : List Value} {z c : Nat} {b : Nat} (hb : hg h b .mk = some ⟨true, z, xs⟩) (hlt : b < hn h .mk) : Row1 h (some ⟨b, 0, none⟩) xs.length xs :=
  ⟨rfl, fun i hi => ⟨b, 0, true, z, xs, rfl, hb, hlt, by simp⟩⟩

theorem make_intro {t u z y : Nat} {zs : List Value} {l : Int} (he : elt? P t = some (u, z, y)) (hz : zr? P u = some zs) (h1 : zs.length = z ∧ 0 < z) (h2 : 0 ≤ l ∧ l.toNat * (y + 1) ≤ most)
    (hk : kz K (.slice (some ⟨hn h .mk, 0, none⟩) l.toNat l.toNat) (h.push ⟨true, z, repL l.toNat zs⟩) .mk) : az (makez P h t (.int .i64 l) (.int .i64 l) .mk) K .mk := by
  have : makez P h t (.int .i64 l) (.int .i64 l) .mk = some (.slice (some ⟨h.n, 0, none⟩) l.toNat l.toNat, h.push ⟨true, z, repL l.toNat zs⟩) := by
    simp only [makez, makeSliceV, he, hz]
    rw [if_pos ⟨h1.1, h1.2, trivial, h2.1, h2.2⟩]
  rw [this]; exact hk
theorem rep_one {n : Nat} {v : Value} : repL n [v] = List.replicate n v := by
  induction n with
  | zero => rfl
  | succ n ih => rw [rep_S, ih]; rfl
theorem wrt_set {cs : List Value} {o : Nat} {v : Value} (ho : o < cs.length) : wrt cs o [v] = some (cs.set o v) := by
  simp only [wrt, List.length_cons, List.length_nil]
  rw [if_pos (by omega)]
  congr 1
  rw [List.set_eq_take_append_cons_drop, if_pos ho]
  simp

attribute [go_sem] lt_S lt_self' beq_S1 beq_S2 beq_S3 beq_S4 beq_SS beq_R1 beq_R2 beq_R3 beq_R4 push_set
end Go.Ai
