/- Own lemmas that the theorem of this claim needs: the abstract machine and walks of functions. -/
import Derived.Test.YtegpkkefbmcddaaGreatQfLawAO
import Derived.Laws.BitsLemmas
import Derived.Laws.Strings
import Derived.Laws.Bits128
set_option linter.unusedSimpArgs false
set_option linter.unusedVariables false
open Nat renaming reduceBEq → sQ1, reduceAdd → sQ2, reduceLeDiff → sQ3, reduceMul → sQ4
open Int renaming reduceLE → sQ5, reduceLT → sQ6, reduceBEq → sQ7
section
set_option maxRecDepth 20000
namespace Go.Bi
open Go.Proofs
open Go.Ai (wrap_i64 wrap_u64 wrap_u8 Heap)
variable {W0 : World} {P : Program}
theorem Cx {l : List Int} {i : Nat} (h : i < l.length) : (l.map cI)[i]? = some (.raw (.int .i64 (Ao l i))) := by
 rw [List.getElem?_map, List.getElem?_eq_getElem h, Ao, List.getD_eq_getElem?_getD, List.getElem?_eq_getElem h]; rfl
theorem KX {l : List Int} {i : Nat} {v : Int} (h : i < l.length) : Cv (l.map cI) i [.raw (.int .i64 v)] = some ((l.set i v).map cI) := by
 rw [H0 (by simpa using h), List.map_set]; rfl
theorem wrap_add {a k : Nat} (h : a + k ≤ 9223372036854775807) : IntKind.i64.wrap ((a : Int) + (k : Int)) = ((a + k : Nat) : Int) := by
 rw [wrap_i64] <;> omega
theorem Ce {a k : Nat} (h : k ≤ a) (h2 : a ≤ 9223372036854775807) : IntKind.i64.wrap ((a : Int) - (k : Int)) = ((a - k : Nat) : Int) := by
 rw [wrap_i64] <;> omega
theorem dk {p : Prop} [Decidable p] {A B : Prop} (ha : ¬ p → A) (hb : p → B) : gz (decide (¬ p)) A B .mk := AN ha (fun h => hb (Decidable.not_not.1 h))
def CI (g g' : H2) (r : Nat) : Prop := hn g' .mk = hn g .mk ∧ ∀ c, c ≠ r → hg g' c .mk = hg g c .mk
theorem CI.refl {g : H2} {r : Nat} : CI g g r := ⟨rfl, fun _ _ => rfl⟩
theorem CI.trans {a b c : H2} {r : Nat} (x : CI a b r) (y : CI b c r) : CI a c r := ⟨y.1.trans x.1, fun q h => (y.2 q h).trans (x.2 q h)⟩
theorem CI.set {g : H2} {r : Nat} {k : OB} : CI g (g.set r k) r := ⟨rfl, fun c hc => by rw [BA, show (c == r) = false by simp [hc]]; rfl⟩
set_option maxHeartbeats 4000000
theorem GU {a b n r : Nat} {l : List Int} {F : X} {g : H2} (hrow : hg g r .mk = some ⟨1, l.map cI⟩) (h1 : a + n ≤ b) (h2 : b + n ≤ l.length) (h3 : l.length ≤ 1099511627776) :
  A7 Tryz.prog W0 248 [.raw (.slice (some ⟨r, 0, none⟩) l.length l.length), .raw (.int .i64 a), .raw (.int .i64 b), .raw (.int .i64 n), F] g
   (fun v g' => ∃ l', hg g' r .mk = some ⟨1, l'.map cI⟩ ∧ Yj l l' a b n ∧ CI g g' r) := by
 refine AH [[0, 1, 2, 3], [0, 1, 2, 3, 10], [0, 1, 2, 3, 10], [0, 1, 2, 3, 10]] Tryz.func248 rfl (rs := []) rfl rfl ?_
 intro wf
 refine zr ?_
 refine AJ [0, 1, 2, 3] (fun m e h' => ∃ (k : Nat) (l' : List Int), look e 10 .mk = .raw (.int .i64 k) ∧ m + k = n ∧ hg h' r .mk = some ⟨1, l'.map cI⟩ ∧ Yj l l' a b k ∧ CI g h' r) n ?_ ?_
 ·exact ⟨0, l, AL, by omega, hrow, Yj.zero, CI.refl⟩
 ·rintro m e h' hks ⟨k, l', e10, hk, hr, hs, hsm⟩
  simp -dsimp -implicitDefEqProofs only [go_sem, sQ1] at hks
  refine C5 hks e10 ?_
  refine AN (fun h4 => ?_) (fun h4 => ?_)
  ·have hl := hs.1
   have hwa : IntKind.i64.wrap ((a : Int) + (k : Int)) = ((a + k : Nat) : Int) := wrap_add (by omega)
   have hwb : IntKind.i64.wrap ((b : Int) + (k : Int)) = ((b + k : Nat) : Int) := wrap_add (by omega)
   have ia : (0 : Int) ≤ ((a + k : Nat) : Int) ∧ ((a + k : Nat) : Int) < (l.length : Int) := by omega
   have ib : (0 : Int) ≤ ((b + k : Nat) : Int) ∧ ((b + k : Nat) : Int) < (l.length : Int) := by omega
   have ja : a + k < l.length := by omega
   have jb : b + k < l.length := by omega
   have ga := Cx (l := l') (i := a + k) (by omega)
   have gb := Cx (l := l') (i := b + k) (by omega)
   have w1 := KX (l := l') (i := a + k) (v := Ao l' (b + k)) (by omega)
   have w2 := KX (l := l'.set (a + k) (Ao l' (b + k))) (i := b + k) (v := Ao l' (a + k)) (by simp; omega)
   refine zr ?_
   refine AO [(0, []), (1, []), (2, []), (3, []), (4, []), (5, []), (6, []), (7, []), (8, []), (9, []), (10, []), (11, []), (12, []), (13, []), (14, []), (15, []), (16, []), (17, []), (18, []), (19, []), (20, []), (21, []), (22, []), (23, [])] (by kernel_rfl) ?_
   repeat (first | rw [ko] | rw [kr] | simp -dsimp -implicitDefEqProofs only [go_sem, sQ1, hr, hwa, hwb, ia, ib, ga, gb, w1, w2, AU (show k < n by omega) (by omega)])
   refine AI (m - 1) (by omega) AL ⟨k + 1, (l'.set (a + k) (Ao l' (b + k))).set (b + k) (Ao l' (a + k)), AL, by omega, AL, hs.step (by omega) (by omega), hsm.trans CI.set⟩
  ·refine zr ?_
   have : k = n := by omega
   subst this
   exact ⟨l', hr, hs, hsm⟩
theorem Ls {a b n r : Nat} {l l' : List Int} {F : X} {g : H2} {Q : X → H2 → Prop} (hl : l'.length = l.length)
  (h : True → A7 Tryz.prog W0 248 [.raw (.slice (some ⟨r, 0, none⟩) l'.length l'.length), .raw (.int .i64 a), .raw (.int .i64 b), .raw (.int .i64 n), F] g Q) :
  A7 Tryz.prog W0 248 [.raw (.slice (some ⟨r, 0, none⟩) l.length l.length), .raw (.int .i64 a), .raw (.int .i64 b), .raw (.int .i64 n), F] g Q := by
 rw [← hl]; exact h trivial
theorem Uz {a m b r : Nat} {l : List Int} {F : X} {g : H2} (hrow : hg g r .mk = some ⟨1, l.map cI⟩) (h1 : a < m) (h2 : m < b) (hb : b ≤ l.length) (h3 : l.length ≤ 1099511627776) :
  A7 Tryz.prog W0 247 [.raw (.slice (some ⟨r, 0, none⟩) l.length l.length), .raw (.int .i64 a), .raw (.int .i64 m), .raw (.int .i64 b), F] g
   (fun v g' => ∃ l', hg g' r .mk = some ⟨1, l'.map cI⟩ ∧ Fc l l' a m b ∧ CI g g' r) := by
 refine AH [[0, 1, 2, 3, 4], [0, 2, 3, 4, 10], [0, 2, 4, 10, 11], [0, 2, 4, 10, 11], [0, 2, 4, 10, 11], [0, 2, 4, 10, 11], [0, 2, 4, 10, 11], [0, 2, 4, 10, 11], [0, 2, 4, 10]] Tryz.func247 rfl (rs := []) rfl rfl ?_
 intro wf
 refine zr ?_
 have w1 : IntKind.i64.wrap ((m : Int) - (a : Int)) = ((m - a : Nat) : Int) := Ce (by omega) (by omega)
 have w2 : IntKind.i64.wrap ((b : Int) - (m : Int)) = ((b - m : Nat) : Int) := Ce (by omega) (by omega)
 refine C5 w1 w2 ?_
 refine AJ [0, 2, 4] (fun q e h' => ∃ (i j : Nat) (l' : List Int), look e 10 .mk = .raw (.int .i64 i) ∧ look e 11 .mk = .raw (.int .i64 j) ∧ q = i + j ∧ 0 < i ∧ 0 < j ∧ i ≤ m - a ∧ j ≤ b - m ∧ l'.length = l.length ∧ hg h' r .mk = some ⟨1, l'.map cI⟩ ∧ (∀ l'', Fc l' l'' (m - i) m (m + j) → Fc l l'' a m b) ∧ CI g h' r) ((m - a) + (b - m)) ?_ ?_
 ·refine ⟨m - a, b - m, l, by simp -dsimp -implicitDefEqProofs only [go_sem, sQ1, w1], by simp -dsimp -implicitDefEqProofs only [go_sem, w2], rfl, by omega, by omega, by omega, by omega, rfl, hrow, fun l'' hr => ?_, CI.refl⟩
  rw [show m - (m - a) = a by omega, show m + (b - m) = b by omega] at hr; exact hr
 ·rintro q e h' hks ⟨i, j, l', e10, e11, hq, hi, hj, hia, hjb, hl, hr, hrot, hsm⟩
  simp -dsimp -implicitDefEqProofs only [go_sem, sQ1] at hks
  refine DH hks e10 e11 ?_
  refine dk (fun h4 => ?_) (fun h4 => ?_)
  ·have h4' : i ≠ j := fun e => h4 (by rw [e])
   refine zr ?_
   refine AN (fun h5 => ?_) (fun h5 => ?_)
   ·have w3 : IntKind.i64.wrap ((m : Int) - (i : Int)) = ((m - i : Nat) : Int) := Ce (by omega) (by omega)
    have w4 : IntKind.i64.wrap ((i : Int) - (j : Int)) = ((i - j : Nat) : Int) := Ce (by omega) (by omega)
    refine A1 w3 ?_
    refine AA (Ls hl (fun h => GU hr (by omega) (by omega) (by omega))) ?_
    rintro v g6 ⟨l6, hr6, hs6, hsm6⟩
    refine A1 w4 ?_
    refine AI (i - j + j) (by omega) AL ⟨i - j, j, l6, AL, AL, rfl, by omega, by omega, by omega, by omega, hs6.1.trans hl, hr6, fun l'' hr'' => hrot l'' (Fc.left hs6 (by omega) (by omega) hr''), hsm.trans hsm6⟩
   ·have w3 : IntKind.i64.wrap ((m : Int) - (i : Int)) = ((m - i : Nat) : Int) := Ce (by omega) (by omega)
    have w5 : IntKind.i64.wrap ((m : Int) + (j : Int)) = ((m + j : Nat) : Int) := wrap_add (by omega)
    have w6 : IntKind.i64.wrap (((m + j : Nat) : Int) - (i : Int)) = ((m + j - i : Nat) : Int) := Ce (by omega) (by omega)
    have w4 : IntKind.i64.wrap ((j : Int) - (i : Int)) = ((j - i : Nat) : Int) := Ce (by omega) (by omega)
    refine DH w3 w5 w6 ?_
    refine AA (Ls hl (fun h => GU hr (by omega) (by omega) (by omega))) ?_
    rintro v g6 ⟨l6, hr6, hs6, hsm6⟩
    refine A1 w4 ?_
    refine AI (i + (j - i)) (by omega) AL ⟨i, j - i, l6, AL, AL, rfl, by omega, by omega, by omega, by omega, hs6.1.trans hl, hr6, fun l'' hr'' => hrot l'' (Fc.right hs6 (by omega) (by omega) hr''), hsm.trans hsm6⟩
  ·have h4' : i = j := by omega
   subst h4'
   have w3 : IntKind.i64.wrap ((m : Int) - (i : Int)) = ((m - i : Nat) : Int) := Ce (by omega) (by omega)
   refine A1 w3 ?_
   refine AA (Ls hl (fun h => GU hr (by omega) (by omega) (by omega))) ?_
   rintro v g6 ⟨l6, hr6, hs6, hsm6⟩
   refine zr ?_
   exact ⟨l6, hr6, hrot l6 (Fc.last hs6 (by omega)), hsm.trans hsm6⟩
def BC (zs : List Int) (x : Int) : Int := Ao zs x.toNat
def T1 (zs : List Int) (x y : Int) : Int := if BC zs y < BC zs x then -1 else if BC zs x < BC zs y then 1 else 0
theorem FI {zs : List Int} {x y : Int} : T1 zs x y < 0 ↔ BC zs y < BC zs x := by
 unfold T1; split
 ·simp_all
 ·split <;> simp_all
theorem Ox {zs : List Int} {f : AQ} {c : Nat} {g : H2} {x y : Int} (hbox : hg g c .mk = some ⟨1, [.sl f 1 (ints zs)]⟩) (hx : 0 ≤ x ∧ x < zs.length) (hy : 0 ≤ y ∧ y < zs.length) :
  A7 Tryz.prog W0 198 [.raw (.int .i64 x), .raw (.int .i64 y), .raw (.pointer (some ⟨c, 0, none⟩))] g (fun v g' => v = .raw (.int .i64 (T1 zs x y)) ∧ g' = g) := by
 obtain ⟨i, rfl⟩ := Int.eq_ofNat_of_zero_le hx.1
 obtain ⟨j, rfl⟩ := Int.eq_ofNat_of_zero_le hy.1
 have hi : i < zs.length := by omega
 have hj : j < zs.length := by omega
 refine AH [[0, 1, 2], [0, 1, 2], [], [0, 1, 2], [], []] Tryz.func198 rfl (rs := [.tmp 5]) rfl rfl ?_
 intro wf
 refine zr ?_
 have k : ∀ i : Nat, BC zs (i : Int) = zs.getD i default := fun i => by rw [BC, Ao, Int.toNat_natCast]; rfl
 refine AO [(0, []), (1, []), (2, []), (3, []), (4, []), (5, []), (6, []), (7, []), (8, []), (9, [])] (by kernel_rfl) ?_
 refine FD hbox hi hj hx hy ?_
 refine AN (fun h1 => ?_) (fun h1 => ?_)
 ·refine zr ?_
  exact ⟨by rw [T1, k, k, if_pos h1], rfl⟩
 ·refine zr ?_
  refine AO [(0, []), (1, []), (2, []), (3, []), (4, []), (5, []), (6, []), (7, []), (8, []), (9, [])] (by kernel_rfl) ?_
  refine FD hbox hi hj hx hy ?_
  refine AN (fun h2 => ?_) (fun h2 => ?_)
  ·refine zr ?_
   exact ⟨by rw [T1, k, k, if_neg h1, if_pos h2], rfl⟩
  ·refine zr ?_
   exact ⟨by rw [T1, k, k, if_neg h1, if_neg h2], rfl⟩
end Go.Bi
end
section
set_option maxRecDepth 20000
namespace Go.Bi
open Go.Proofs
open Go.Ai (wrap_i64 wrap_u64 wrap_u8 Heap)
variable {W0 : World} {P : Program}
set_option maxHeartbeats 4000000
theorem LQ {a b r c : Nat} {l zs : List Int} {f : AQ} {g : H2} (hrow : hg g r .mk = some ⟨1, l.map cI⟩) (hbox : hg g c .mk = some ⟨1, [.sl f 1 (ints zs)]⟩) (hcr : c ≠ r) (hab : a ≤ b) (hb : b ≤ l.length) (hl : l.length = zs.length) (h3 : l.length ≤ 400)
  (hid : ∀ i, a ≤ i → i < b → Ao l i = i) :
  A7 Tryz.prog W0 244 [.raw (.slice (some ⟨r, 0, none⟩) l.length l.length), .raw (.int .i64 a), .raw (.int .i64 b), .raw (.func (.func 198) #[] [.pointer (some ⟨c, 0, none⟩)].toArray)] g
   (fun v g' => ∃ l', hg g' r .mk = some ⟨1, l'.map cI⟩ ∧ Out l l' a b ∧ Good (BC zs) l' a b ∧ CI g g' r) := by
 refine AH [[0, 1, 2, 3], [0, 1, 2, 3, 8], [0, 1, 2, 3, 8], [0, 1, 2, 3, 8], [0, 1, 2, 3, 8, 9], [0, 1, 2, 3, 8, 9], [0, 1, 2, 3, 8, 9]] Tryz.func244 rfl (rs := []) rfl rfl ?_
 intro wf
 have wa1 := BE a (by omega)
 refine A1 wa1 ?_
 refine AJ [0, 1, 2, 3] (fun m e h' => ∃ (i : Nat) (l' : List Int), look e 8 .mk = .raw (.int .i64 i) ∧ m + i = b + 1 ∧ (a + 1 ≤ i ∧ (i ≤ b ∨ a = b)) ∧ hg h' r .mk = some ⟨1, l'.map cI⟩ ∧ Out l l' a b ∧ (∀ x, i ≤ x → Ao l' x = Ao l x) ∧ (i ≤ b → Good (BC zs) l' a i) ∧ CI g h' r) (b - a) ?_ ?_
 ·refine ⟨a + 1, l, AL, by omega, ⟨by omega, by omega⟩, hrow, Out.refl, fun _ _ => rfl, fun h => Good.one (hid a (by omega) (by omega)), CI.refl⟩
 ·rintro m e h' hks ⟨i, l1, e8, hm, hi, hr, ho, hrest, hgood, hsm⟩
  simp -dsimp -implicitDefEqProofs only [go_sem, sQ1] at hks
  refine C5 hks e8 ?_
  refine AN (fun h4 => ?_) (fun h4 => ?_)
  ·refine zr ?_
   have hg0 := hgood (by omega)
   have hli : Ao l1 i = i := (hrest i (by omega)).trans (hid i (by omega) (by omega))
   refine H4 2 [0, 1, 2, 3, 8] (fun m e h2 => ∃ (j : Nat) (l2 : List Int), look e 9 .mk = .raw (.int .i64 j) ∧ m = j ∧ a ≤ j ∧ j ≤ i ∧ hg h2 r .mk = some ⟨1, l2.map cI⟩ ∧ Fc l1 l2 j i (i + 1) ∧ (j = i ∨ BC zs (Ao l1 j) < BC zs (Ao l1 i)) ∧ CI g h2 r)
    (fun e h2 => ∃ l2, hg h2 r .mk = some ⟨1, l2.map cI⟩ ∧ Out l1 l2 a (i + 1) ∧ Good (BC zs) l2 a (i + 1) ∧ CI g h2 r) i ?_ ?_ ?_
   ·exact ⟨i, l1, AL, rfl, by omega, Nat.le_refl _, hr, Fc.none_l, .inl rfl, hsm⟩
   ·rintro m2 e2 h2 hks2 ⟨j, l2, e9, hmj, haj, hji, hr2, hrot, hlast, hsm2⟩
    subst hmj
    simp -dsimp -implicitDefEqProofs only [go_sem, sQ1] at hks2
    have hll : l2.length = l.length := hrot.1.1.trans ho.1
    refine C5 hks2 e9 ?_
    refine AO [(0, []), (1, []), (2, []), (3, []), (4, []), (5, []), (6, []), (7, []), (8, []), (9, []), (10, []), (11, []), (12, []), (13, []), (14, []), (15, []), (16, [])] (by kernel_rfl) ?_
    refine zr ?_
    have hout : ∀ l3 : List Int, Fc l1 l3 m2 i (i + 1) → (m2 = a ∨ ¬ BC zs (Ao l1 (m2 - 1)) < BC zs (Ao l1 i)) → Out l1 l3 a (i + 1) ∧ Good (BC zs) l3 a (i + 1) := fun l3 hro hx =>
     ⟨hro.1.wide haj (Nat.le_refl _), hg0.grow hli haj hji hro hx hlast⟩
    refine AN (fun h5 => ?_) (fun h5 => ?_)
    rotate_left
    ·refine A1 h5 ?_
     obtain ⟨p1, p2⟩ := hout l2 hrot (.inl (by omega))
     exact Er AL ⟨l2, hr2, p1, p2, hsm2⟩
    have wj : IntKind.i64.wrap ((m2 : Int) - 1) = ((m2 - 1 : Nat) : Int) := by rw [wrap_i64] <;> omega
    have ia : (0 : Int) ≤ ((m2 : Nat) : Int) ∧ ((m2 : Nat) : Int) < (l.length : Int) := by omega
    have ib : (0 : Int) ≤ ((m2 - 1 : Nat) : Int) ∧ ((m2 - 1 : Nat) : Int) < (l.length : Int) := by omega
    have ja : m2 < l.length := by omega
    have jb : m2 - 1 < l.length := by omega
    have ga := Cx (l := l2) (i := m2) (by omega)
    have gb := Cx (l := l2) (i := m2 - 1) (by omega)
    have ea : Ao l2 m2 = Ao l1 i := by have := hrot.2.1 0 (by omega); simpa using this
    have eb : Ao l2 (m2 - 1) = Ao l1 (m2 - 1) := hrot.1.2 _ (by omega)
    have ra := hg0.2.1 (m2 - 1) (by omega) (by omega)
    have hbox2 : hg h2 c .mk = some ⟨1, [.sl f 1 (ints zs)]⟩ := (hsm2.2 c hcr).trans hbox
    refine Tk h5 hr2 wj ia ib ga gb ?_
    refine AA (Ox hbox2 (by rw [ea, hli]; omega) (by rw [eb]; omega)) ?_
    rintro _ h9 ⟨rfl, rfl⟩
    refine A1 h5 ?_
    refine AN (fun h6 => ?_) (fun h6 => ?_)
    rotate_left
    ·refine zr ?_
     rw [FI, ea, eb] at h6
     obtain ⟨p1, p2⟩ := hout l2 hrot (.inr h6)
     exact Er AL ⟨l2, hr2, p1, p2, hsm2⟩
    rw [FI, ea, eb] at h6
    have w1 := KX (l := l2) (i := m2) (v := Ao l2 (m2 - 1)) (by omega)
    have w2 := KX (l := l2.set m2 (Ao l2 (m2 - 1))) (i := m2 - 1) (v := Ao l2 m2) (by simp; omega)
    refine zr ?_
    refine AO [(0, []), (1, []), (2, []), (3, []), (4, []), (5, []), (6, []), (7, []), (8, []), (9, []), (10, []), (11, []), (12, []), (13, []), (14, []), (15, []), (16, []), (17, [])] (by kernel_rfl) ?_
    refine UK hr2 wj ia ib ga gb w1 w2 ?_
    refine AI (m2 - 1) (by omega) AL ⟨m2 - 1, (l2.set m2 (Ao l2 (m2 - 1))).set (m2 - 1) (Ao l2 m2), AL, rfl, by omega, by omega, AL, QR hrot (by omega) hji (by have := ho.1; omega), .inr h6, hsm2.trans CI.set⟩
   ·rintro e2 h2 hks2 ⟨l2, hr2, ho2, hg2, hsm2⟩
    simp -dsimp -implicitDefEqProofs only [go_sem, sQ1] at hks2
    have wi1 := BE i (by omega)
    refine C5 hks2 wi1 ?_
    refine AI (m - 1) (by omega) AL ⟨i + 1, l2, AL, by omega, ⟨by omega, .inl (by omega)⟩, hr2, ho.trans (ho2.wide (Nat.le_refl _) (by omega)), fun x hx => (ho2.2 x (by omega)).trans (hrest x (by omega)), fun _ => hg2, hsm2⟩
  ·refine zr ?_
   refine ⟨l1, hr, ho, ?_, hsm⟩
   by_cases hib : i ≤ b
   ·have : i = b := by omega
    subst this; exact hgood (Nat.le_refl _)
   ·have : a = b := by omega
    subst this
    exact ⟨fun i j h1 h2 h3 => by omega, fun i h1 h2 => by omega, fun v h1 h2 => by omega⟩
end Go.Bi
end
section
set_option maxRecDepth 20000
namespace Go.Bi
open Go.Proofs
open Go.Ai (wrap_i64 wrap_u64 wrap_u8 Heap)
variable {W0 : World} {P : Program}
set_option maxHeartbeats 4000000
theorem WU {p : Prop} [Decidable p] {A B : Prop} (ha : ¬ p → A) (hb : p → B) : gz (!decide p) A B .mk := EA (fun h => ha (by simpa using h)) (fun h => hb (by simpa using h))
theorem Kr {x : Nat} (h : x ≤ 9223372036854775807) : IntKind.i64.wrap (Go.Ai.shrI IntKind.u64 (IntKind.u64.wrap (x : Int)) 1) = ((x / 2 : Nat) : Int) := by
 rw [wrap_u64, show ((x : Int) % 18446744073709551616) = x by omega]
 have : Go.Ai.shrI .u64 (x : Int) 1 = ((x / 2 : Nat) : Int) := by
  unfold Go.Ai.shrI
  rw [show (2 : Int) ^ (min (1 : Int).toNat IntKind.u64.bits) = 2 from rfl, Int.fdiv_eq_ediv_of_nonneg _ (by omega)]; omega
 rw [this, wrap_i64] <;> omega
attribute [-go_sem] CV in
theorem KV {r c : Nat} {zs : List Int} {f : AQ} (hcr : c ≠ r) (h3 : zs.length ≤ 400) : ∀ (n a m b : Nat) (l : List Int) (g : H2), b - a ≤ n → hg g r .mk = some ⟨1, l.map cI⟩ → hg g c .mk = some ⟨1, [.sl f 1 (ints zs)]⟩ → a < m → m < b → b ≤ l.length → l.length = zs.length →
    NN (BC zs) l a m b → (∀ i, a ≤ i → i < b → 0 ≤ Ao l i ∧ Ao l i < zs.length) →
    A7 Tryz.prog W0 245 [.raw (.slice (some ⟨r, 0, none⟩) l.length l.length), .raw (.int .i64 a), .raw (.int .i64 m), .raw (.int .i64 b), .raw (.func (.func 198) #[] [.pointer (some ⟨c, 0, none⟩)].toArray)] g
      (fun v g' => ∃ l', hg g' r .mk = some ⟨1, l'.map cI⟩ ∧ PX (BC zs) l l' a b ∧ CI g g' r) := by
  intro n
  induction n with
  | zero => intro a m b l g hn; omega
  | succ n ih =>
  intro a m b l g hn hrow hbox ham hmb hb hl hpre hrg
  refine AH [[0, 1, 2, 3, 4], [0, 1, 2, 3, 4], [0, 1, 3, 4, 10], [0, 1, 4, 10, 11], [0, 1, 4, 10, 11], [0, 1, 4, 10, 11, 12], [0, 1, 4, 11, 12], [0, 1, 4, 10, 12], [0, 1, 10], [0, 10, 13], [0, 10, 13], [0, 10, 13], [0, 1, 2, 3, 4], [0, 1, 2, 4], [0, 2, 4, 14], [0, 2, 4, 14, 15], [0, 2, 4, 14, 15], [0, 2, 4, 14, 15, 16], [0, 2, 4, 15, 16], [0, 2, 4, 14, 16], [0, 2, 14], [0, 14, 17], [0, 14, 17], [0, 14, 17], [0, 1, 2, 3, 4], [0, 1, 2, 3, 4, 18], [0, 1, 2, 3, 4, 18, 19], [0, 1, 2, 3, 4, 18, 19], [0, 1, 2, 3, 4, 18, 19], [0, 1, 2, 3, 4, 18, 19, 20], [0, 1, 2, 3, 4, 18, 19], [0, 1, 2, 3, 4, 18, 19, 20], [0, 1, 2, 3, 4, 18, 19, 20, 21], [0, 1, 2, 3, 4, 18, 19, 20, 21, 22], [0, 1, 2, 3, 4, 18, 19, 20, 21, 22], [0, 1, 2, 3, 4, 18, 19, 20, 21, 22, 23], [0, 1, 2, 3, 4, 18, 19, 21, 22, 23], [0, 1, 2, 3, 4, 18, 19, 20, 22, 23], [0, 1, 2, 3, 4, 18, 19, 20], [0, 1, 2, 3, 4, 18, 20, 24], [0, 1, 2, 3, 4, 18, 20, 24], [0, 1, 3, 4, 18, 20, 24], [0, 1, 3, 4, 18, 20, 24], [0, 3, 4, 18, 24], [0, 3, 4, 18, 24]] Tryz.func245 rfl (rs := []) rfl rfl ?_
  intro wf
  have wd : IntKind.i64.wrap ((m : Int) - (a : Int)) = ((m - a : Nat) : Int) := Ce (by omega) (by omega)
  have we : IntKind.i64.wrap ((b : Int) - (m : Int)) = ((b - m : Nat) : Int) := Ce (by omega) (by omega)
  repeat (first | rw [ko] | rw [kr] | simp -dsimp -implicitDefEqProofs only [go_sem, sQ1, wd, CV])
  refine AN (fun q1 => ?_) (fun q1 => ?_)
  · have hm : m = a + 1 := by omega
    refine zr ?_
    refine AJ [0, 1, 4] (fun q e h' => ∃ (i j : Nat), look e 10 .mk = .raw (.int .i64 i) ∧ look e 11 .mk = .raw (.int .i64 j) ∧ q + i = j ∧ m ≤ i ∧ j ≤ b ∧ (j = b ∨ ¬ BC zs (Ao l a) < BC zs (Ao l j)) ∧ (i = m ∨ BC zs (Ao l a) < BC zs (Ao l (i - 1))) ∧ h' = g) (b - m) ?_ ?_
    · exact ⟨m, b, AL, AL, by omega, by omega, by omega, .inl rfl, .inl rfl, rfl⟩
    · rintro q e h' hks ⟨i, j, e10, e11, hq, hi, hj, x1, x2, rfl⟩
      simp -dsimp -implicitDefEqProofs only [go_sem, sQ1] at hks
      repeat (first | rw [ko] | rw [kr] | simp -dsimp -implicitDefEqProofs only [go_sem, sQ1, hks, e10, e11, CV])
      refine AN (fun q2 => ?_) (fun q2 => ?_)
      · have wh : IntKind.i64.wrap ((i : Int) + (j : Int)) = ((i + j : Nat) : Int) := wrap_add (by omega)
        have wv := Kr (x := i + j) (by omega)
        obtain ⟨h, hh⟩ : ∃ h, h = (i + j) / 2 := ⟨_, rfl⟩
        rw [← hh] at wv
        have ia : (0 : Int) ≤ ((a : Nat) : Int) ∧ ((a : Nat) : Int) < (l.length : Int) := by omega
        have ib : (0 : Int) ≤ ((h : Nat) : Int) ∧ ((h : Nat) : Int) < (l.length : Int) := by omega
        have ja : a < l.length := by omega
        have jb : h < l.length := by omega
        have ga := Cx (l := l) (i := a) (by omega)
        have gb := Cx (l := l) (i := h) (by omega)
        refine C5 wh wv ?_
        refine AO [(0, []), (1, []), (2, []), (3, []), (4, []), (5, []), (6, []), (7, []), (8, []), (9, []), (10, [])] (by kernel_rfl) ?_
        refine FD hrow ia ib ga gb ?_
        refine AA (Ox hbox (hrg h (by omega) (by omega)) (hrg a (by omega) (by omega))) ?_
        rintro _ h9 ⟨rfl, rfl⟩
        repeat (first | rw [ko] | rw [kr] | simp -dsimp -implicitDefEqProofs only [go_sem, CV])
        refine AN (fun h6 => ?_) (fun h6 => ?_)
        · rw [FI] at h6
          repeat (first | rw [ko] | rw [kr] | simp -dsimp -implicitDefEqProofs only [go_sem, sQ1, AU (show h < j by omega) (by omega)])
          exact AI (j - (h + 1)) (by omega) AL ⟨h + 1, j, AL, AL, by omega, by omega, hj, x1, .inr h6, rfl⟩
        · rw [FI] at h6
          refine zr ?_
          exact AI (h - i) (by omega) AL ⟨i, h, AL, AL, by omega, hi, by omega, .inr h6, x2, rfl⟩
      · refine zr ?_
        have hij : i = j := by omega
        subst hij
        refine AJ [0, 10] (fun q e h2 => ∃ (k : Nat) (l' : List Int), look e 13 .mk = .raw (.int .i64 k) ∧ a ≤ k ∧ q + k + 1 = i ∧ hg h2 r .mk = some ⟨1, l'.map cI⟩ ∧ Fc l l' a (a + 1) (k + 1) ∧ CI h' h2 r) (i - 1 - a) ?_ ?_
        · exact ⟨a, l, AL, Nat.le_refl _, by omega, hrow, Fc.none_r, CI.refl⟩
        · rintro q2 e2 h2 hks2 ⟨k, l', e13, hak, hk, hr, hrot, hsm⟩
          simp -dsimp -implicitDefEqProofs only [go_sem, sQ1] at hks2
          have wi : IntKind.i64.wrap ((i : Int) - 1) = ((i - 1 : Nat) : Int) := by rw [wrap_i64] <;> omega
          repeat (first | rw [ko] | rw [kr] | simp -dsimp -implicitDefEqProofs only [go_sem, sQ1, hks2, e13, wi, CV])
          refine AN (fun q3 => ?_) (fun q3 => ?_)
          · have hll := hrot.1.1
            have wk := AU (show k < i by omega) (by omega)
            have ia : (0 : Int) ≤ ((k : Nat) : Int) ∧ ((k : Nat) : Int) < (l.length : Int) := by omega
            have ib : (0 : Int) ≤ ((k + 1 : Nat) : Int) ∧ ((k + 1 : Nat) : Int) < (l.length : Int) := by omega
            have ja : k < l.length := by omega
            have jb : k + 1 < l.length := by omega
            have ga := Cx (l := l') (i := k) (by omega)
            have gb := Cx (l := l') (i := k + 1) (by omega)
            have w1 := KX (l := l') (i := k) (v := Ao l' (k + 1)) (by omega)
            have w2 := KX (l := l'.set k (Ao l' (k + 1))) (i := k + 1) (v := Ao l' k) (by simp; omega)
            refine zr ?_
            refine AO [(0, []), (1, []), (2, []), (3, []), (4, []), (5, []), (6, []), (7, []), (8, []), (9, []), (10, []), (11, []), (12, []), (13, []), (14, []), (15, []), (16, []), (17, [])] (by kernel_rfl) ?_
            refine UK hr wk ia ib ga gb w1 w2 ?_
            exact AI (q2 - 1) (by omega) AL ⟨k + 1, (l'.set k (Ao l' (k + 1))).set (k + 1) (Ao l' k), AL, by omega, by omega, AL, cE hrot hak (by omega), hsm.trans CI.set⟩
          · refine zr ?_
            have hki : k + 1 = i := by omega
            rw [hki] at hrot
            subst hm
            exact ⟨l', hr, T3 hpre hi hj hrot x1 x2, hsm⟩
  repeat (first | rw [ko] | rw [kr] | simp -dsimp -implicitDefEqProofs only [go_sem, sQ1, we, CV])
  refine AN (fun q2 => ?_) (fun q2 => ?_)
  · have hm : b = m + 1 := by omega
    refine zr ?_
    refine AJ [0, 2, 4] (fun q e h' => ∃ (i j : Nat), look e 14 .mk = .raw (.int .i64 i) ∧ look e 15 .mk = .raw (.int .i64 j) ∧ q + i = j ∧ a ≤ i ∧ j ≤ m ∧ (j = m ∨ BC zs (Ao l j) < BC zs (Ao l m)) ∧ (i = a ∨ ¬ BC zs (Ao l (i - 1)) < BC zs (Ao l m)) ∧ h' = g) (m - a) ?_ ?_
    · exact ⟨a, m, AL, AL, by omega, by omega, by omega, .inl rfl, .inl rfl, rfl⟩
    · rintro q e h' hks ⟨i, j, e14, e15, hq, hi, hj, x1, x2, rfl⟩
      simp -dsimp -implicitDefEqProofs only [go_sem, sQ1] at hks
      repeat (first | rw [ko] | rw [kr] | simp -dsimp -implicitDefEqProofs only [go_sem, sQ1, hks, e14, e15, CV])
      refine AN (fun q2 => ?_) (fun q2 => ?_)
      · have wh : IntKind.i64.wrap ((i : Int) + (j : Int)) = ((i + j : Nat) : Int) := wrap_add (by omega)
        have wv := Kr (x := i + j) (by omega)
        obtain ⟨h, hh⟩ : ∃ h, h = (i + j) / 2 := ⟨_, rfl⟩
        rw [← hh] at wv
        have ia : (0 : Int) ≤ ((m : Nat) : Int) ∧ ((m : Nat) : Int) < (l.length : Int) := by omega
        have ib : (0 : Int) ≤ ((h : Nat) : Int) ∧ ((h : Nat) : Int) < (l.length : Int) := by omega
        have ja : m < l.length := by omega
        have jb : h < l.length := by omega
        have ga := Cx (l := l) (i := m) (by omega)
        have gb := Cx (l := l) (i := h) (by omega)
        refine C5 wh wv ?_
        refine AO [(0, []), (1, []), (2, []), (3, []), (4, []), (5, []), (6, []), (7, []), (8, []), (9, []), (10, []), (11, [])] (by kernel_rfl) ?_
        refine FD hrow ia ib ga gb ?_
        refine AA (Ox hbox (hrg m (by omega) (by omega)) (hrg h (by omega) (by omega))) ?_
        rintro _ h9 ⟨rfl, rfl⟩
        repeat (first | rw [ko] | rw [kr] | simp -dsimp -implicitDefEqProofs only [go_sem, CV])
        refine WU (fun h6 => ?_) (fun h6 => ?_)
        · rw [FI] at h6
          repeat (first | rw [ko] | rw [kr] | simp -dsimp -implicitDefEqProofs only [go_sem, sQ1, AU (show h < j by omega) (by omega)])
          exact AI (j - (h + 1)) (by omega) AL ⟨h + 1, j, AL, AL, by omega, by omega, hj, x1, .inr h6, rfl⟩
        · rw [FI] at h6
          refine zr ?_
          exact AI (h - i) (by omega) AL ⟨i, h, AL, AL, by omega, hi, by omega, .inr h6, x2, rfl⟩
      · refine zr ?_
        have hij : i = j := by omega
        subst hij
        refine AJ [0, 14] (fun q e h2 => ∃ (k : Nat) (l' : List Int), look e 17 .mk = .raw (.int .i64 k) ∧ k ≤ m ∧ i ≤ k ∧ q + i = k ∧ hg h2 r .mk = some ⟨1, l'.map cI⟩ ∧ Fc l l' k m (m + 1) ∧ CI h' h2 r) (m - i) ?_ ?_
        · exact ⟨m, l, AL, Nat.le_refl _, by omega, by omega, hrow, Fc.none_l, CI.refl⟩
        · rintro q2 e2 h2 hks2 ⟨k, l', e17, hak, hik, hk, hr, hrot, hsm⟩
          simp -dsimp -implicitDefEqProofs only [go_sem, sQ1] at hks2
          repeat (first | rw [ko] | rw [kr] | simp -dsimp -implicitDefEqProofs only [go_sem, sQ1, hks2, e17, CV])
          refine AN (fun q3 => ?_) (fun q3 => ?_)
          · have hll := hrot.1.1
            have wk : IntKind.i64.wrap ((k : Int) - 1) = ((k - 1 : Nat) : Int) := by rw [wrap_i64] <;> omega
            have ia : (0 : Int) ≤ ((k : Nat) : Int) ∧ ((k : Nat) : Int) < (l.length : Int) := by omega
            have ib : (0 : Int) ≤ ((k - 1 : Nat) : Int) ∧ ((k - 1 : Nat) : Int) < (l.length : Int) := by omega
            have ja : k < l.length := by omega
            have jb : k - 1 < l.length := by omega
            have ga := Cx (l := l') (i := k) (by omega)
            have gb := Cx (l := l') (i := k - 1) (by omega)
            have w1 := KX (l := l') (i := k) (v := Ao l' (k - 1)) (by omega)
            have w2 := KX (l := l'.set k (Ao l' (k - 1))) (i := k - 1) (v := Ao l' k) (by simp; omega)
            refine zr ?_
            refine AO [(0, []), (1, []), (2, []), (3, []), (4, []), (5, []), (6, []), (7, []), (8, []), (9, []), (10, []), (11, []), (12, []), (13, []), (14, []), (15, []), (16, []), (17, [])] (by kernel_rfl) ?_
            refine UK hr wk ia ib ga gb w1 w2 ?_
            exact AI (q2 - 1) (by omega) AL ⟨k - 1, (l'.set k (Ao l' (k - 1))).set (k - 1) (Ao l' k), AL, by omega, by omega, by omega, AL, QR hrot (by omega) hak (by omega), hsm.trans CI.set⟩
          · refine zr ?_
            have hki : k = i := by omega
            subst hki hm
            exact ⟨l', hr, Nk hpre hi hj hrot x2 x1, hsm⟩
  have wab : IntKind.i64.wrap ((a : Int) + (b : Int)) = ((a + b : Nat) : Int) := wrap_add (by omega)
  have wv := Kr (x := a + b) (by omega)
  obtain ⟨mid, hmid⟩ : ∃ h, h = (a + b) / 2 := ⟨_, rfl⟩
  rw [← hmid] at wv
  have wn : IntKind.i64.wrap ((mid : Int) + (m : Int)) = ((mid + m : Nat) : Int) := wrap_add (by omega)
  have wp : IntKind.i64.wrap (((mid + m : Nat) : Int) - 1) = ((mid + m - 1 : Nat) : Int) := by rw [wrap_i64] <;> omega
  obtain ⟨lo, hi, hlh⟩ : ∃ lo hi : Nat, (mid < m ∧ lo = mid + m - b ∧ hi = mid) ∨ (m ≤ mid ∧ lo = a ∧ hi = m) := by
    by_cases h : mid < m
    · exact ⟨_, _, .inl ⟨h, rfl, rfl⟩⟩
    · exact ⟨_, _, .inr ⟨by omega, rfl, rfl⟩⟩
  refine DH wab wv wn ?_
  refine OH [0, 1, 2, 3, 4, 18, 19] (fun e h' => look e 20 .mk = .raw (.int .i64 lo) ∧ look e 21 .mk = .raw (.int .i64 hi) ∧ h' = g) ?_ ?_
  · repeat (first | rw [ko] | rw [kr] | simp -dsimp -implicitDefEqProofs only [go_sem, CV])
    refine AN (fun q3 => ?_) (fun q3 => ?_)
    · have wnb : IntKind.i64.wrap (((mid + m : Nat) : Int) - (b : Int)) = (lo : Int) := by rw [wrap_i64] <;> omega
      have whi : ((mid : Nat) : Int) = (hi : Int) := by omega
      refine A1 wnb ?_
      exact Da AL ⟨AL, by simp -dsimp -implicitDefEqProofs only [go_sem, whi], rfl⟩
    · have wnb : ((a : Nat) : Int) = (lo : Int) := by omega
      have whi : ((m : Nat) : Int) = (hi : Int) := by omega
      refine zr ?_
      exact Da AL ⟨by simp -dsimp -implicitDefEqProofs only [go_sem, sQ1, wnb], by simp -dsimp -implicitDefEqProofs only [go_sem, whi], rfl⟩
  rintro e1 g1 hks1 ⟨e20, e21, rfl⟩
  simp -dsimp -implicitDefEqProofs only [go_sem, sQ1] at hks1
  refine Cu hks1 e20 e21 wp ?_
  refine AJ [0, 1, 2, 3, 4, 18, 19, 22] (fun q e h' => ∃ (s t : Nat), look e 20 .mk = .raw (.int .i64 s) ∧ look e 21 .mk = .raw (.int .i64 t) ∧ q + s = t ∧ lo ≤ s ∧ t ≤ hi ∧ (s = lo ∨ ¬ BC zs (Ao l (s - 1)) < BC zs (Ao l (mid + m - s))) ∧ (t = hi ∨ BC zs (Ao l t) < BC zs (Ao l (mid + m - 1 - t))) ∧ h' = g1) (hi - lo) ?_ ?_
  · exact ⟨lo, hi, AL, AL, by omega, Nat.le_refl _, Nat.le_refl _, .inl rfl, .inl rfl, rfl⟩
  · rintro q e h' hks ⟨s, t, e20, e21, hq, hs, ht, x1, x2, rfl⟩
    simp -dsimp -implicitDefEqProofs only [go_sem, sQ1] at hks
    repeat (first | rw [ko] | rw [kr] | simp -dsimp -implicitDefEqProofs only [go_sem, sQ1, hks, e20, e21, CV])
    refine AN (fun q4 => ?_) (fun q4 => ?_)
    · have wh : IntKind.i64.wrap ((s : Int) + (t : Int)) = ((s + t : Nat) : Int) := wrap_add (by omega)
      have wv := Kr (x := s + t) (by omega)
      obtain ⟨h, hh⟩ : ∃ h, h = (s + t) / 2 := ⟨_, rfl⟩
      rw [← hh] at wv
      have wi : IntKind.i64.wrap (((mid + m - 1 : Nat) : Int) - (h : Int)) = ((mid + m - 1 - h : Nat) : Int) := Ce (by omega) (by omega)
      have ia : (0 : Int) ≤ ((mid + m - 1 - h : Nat) : Int) ∧ ((mid + m - 1 - h : Nat) : Int) < (l.length : Int) := by omega
      have ib : (0 : Int) ≤ ((h : Nat) : Int) ∧ ((h : Nat) : Int) < (l.length : Int) := by omega
      have ja : mid + m - 1 - h < l.length := by omega
      have jb : h < l.length := by omega
      have ga := Cx (l := l) (i := mid + m - 1 - h) (by omega)
      have gb := Cx (l := l) (i := h) (by omega)
      refine C5 wh wv ?_
      refine AO [(0, []), (1, []), (2, []), (3, []), (4, []), (5, []), (6, []), (7, []), (8, []), (9, []), (10, []), (11, []), (12, []), (13, [])] (by kernel_rfl) ?_
      refine PY hrow wi ia ib ga gb ?_
      refine AA (Ox hbox (hrg (mid + m - 1 - h) (by omega) (by omega)) (hrg h (by omega) (by omega))) ?_
      rintro _ h9 ⟨rfl, rfl⟩
      repeat (first | rw [ko] | rw [kr] | simp -dsimp -implicitDefEqProofs only [go_sem, CV])
      refine WU (fun h6 => ?_) (fun h6 => ?_)
      · rw [FI] at h6
        repeat (first | rw [ko] | rw [kr] | simp -dsimp -implicitDefEqProofs only [go_sem, sQ1, AU (show h < t by omega) (by omega)])
        exact AI (t - (h + 1)) (by omega) AL ⟨h + 1, t, AL, AL, by omega, by omega, ht, .inr (by rw [show mid + m - (h + 1) = mid + m - 1 - h by omega]; exact h6), x2, rfl⟩
      · rw [FI] at h6
        refine zr ?_
        exact AI (h - s) (by omega) AL ⟨s, h, AL, AL, by omega, hs, by omega, x1, .inr h6, rfl⟩
    · have hst : s = t := by omega
      subst hst
      obtain ⟨en, hen⟩ : ∃ en, en = mid + m - s := ⟨_, rfl⟩
      have wen : IntKind.i64.wrap (((mid + m : Nat) : Int) - (s : Int)) = (en : Int) := by rw [wrap_i64] <;> omega
      have hpr := hpre
      have hx1 : s = a ∨ en = b ∨ G0 (BC zs) (Ao l (s - 1)) (Ao l en) := by
        rcases x1 with x | x
        · rcases hlh with ⟨y1, y2, y3⟩ | ⟨y1, y2, y3⟩
          · right; left; omega
          · left; omega
        · by_cases hsa : s = a
          · exact .inl hsa
          · by_cases hen2 : en = b
            · exact .inr (.inl hen2)
            · rw [← hen] at x
              exact .inr (.inr ((hpre.2.2.lt (by omega) (by omega) (by omega) (by omega)).2 x))
      have hx2 : s = m ∨ en = m ∨ G0 (BC zs) (Ao l (en - 1)) (Ao l s) := by
        rcases x2 with x | x
        · omega
        · by_cases hsm : s = m
          · exact .inl hsm
          · by_cases hen2 : en = m
            · exact .inr (.inl hen2)
            · rw [show mid + m - 1 - s = en - 1 by omega] at x
              exact .inr (.inr ((hpre.2.2.gt (by omega) (by omega) (by omega) (by omega)).2 x))
      have hsm1 : s ≤ m := by omega
      have hem : m ≤ en := by omega
      have heb : en ≤ b := by omega
      have has : a ≤ s := by omega
      have hcm : s + (en - m) = mid := by omega
      have fin : ∀ {l1 l2 l3 : List Int}, Fc l l1 s m en → (NN (BC zs) l1 a s mid → PX (BC zs) l1 l2 a mid) → (NN (BC zs) l2 mid en b → PX (BC zs) l2 l3 mid b) → PX (BC zs) l l3 a b := fun r m1 m2 => Ol hpre has hsm1 hem heb r hx1 hx2 (by rw [hcm]; exact m1) (by rw [hcm]; exact m2)
      have pre1 : ∀ {l1 : List Int}, Fc l l1 s m en → NN (BC zs) l1 a s mid ∧ NN (BC zs) l1 mid en b := fun r => by
        have := TX hpre has hsm1 hem heb r hx1 hx2
        rw [hcm] at this; exact ⟨this.1, this.2.1⟩
      have rng : ∀ {l1 : List Int} {u v : Nat}, Mem l l1 a b → a ≤ u → v ≤ b → ∀ i, u ≤ i → i < v → 0 ≤ Ao l1 i ∧ Ao l1 i < zs.length := fun hm hu hv i h1 h2 => by
        obtain ⟨j, h3, h4, h5⟩ := (hm _).2 ⟨i, by omega, by omega, rfl⟩
        rw [← h5]; exact hrg j h3 h4
      have memR : ∀ {l1 : List Int}, Fc l l1 s m en → Mem l l1 a b := fun r => ((Mem.of_out r.1 (by omega)).join (r.mem hsm1 hem) has (by omega)).join (Mem.of_out (a := en) (b := b) r.1 (by omega)) (by omega) heb
      rcases Decidable.em ((s : Int) < (m : Int)) with f1 | f1 <;> rcases Decidable.em ((a : Int) < (s : Int)) with f2 | f2 <;> rcases Decidable.em ((mid : Int) < (en : Int)) with f3 | f3
      all_goals first | (exfalso; omega) | skip
      all_goals
        refine C5 wen f1 ?_
        refine OH [0, 1, 3, 4, 18, 20, 24] (fun e g2 => ∃ l1, hg g2 r .mk = some ⟨1, l1.map cI⟩ ∧ Fc l l1 s m en ∧ CI h' g2 r) ?_ ?_
        · repeat (first | rw [ko] | rw [kr] | simp -dsimp -implicitDefEqProofs only [go_sem, CV])
          first
          | (refine AN (fun f4 => ?_) (fun f4 => ?_)
             · refine zr ?_
               refine AA (Uz hrow (by omega) (by omega) (by omega) (by omega)) ?_
               rintro v g2 ⟨l1, hr1, hro, hs1⟩
               refine zr ?_
               exact Da AL ⟨l1, hr1, hro, hs1⟩
             · refine zr ?_
               exact Da AL ⟨l, hrow, (by rw [show en = m by omega]; exact Fc.none_r), CI.refl⟩)
          | exact Da AL ⟨l, hrow, (by rw [show s = m by omega]; exact Fc.none_l), CI.refl⟩
        rintro e2 g2 hks2 ⟨l1, hr1, hro, hs1⟩
        simp -dsimp -implicitDefEqProofs only [go_sem, sQ1] at hks2
        refine C5 hks2 f2 ?_
        have el1 := hro.1.1
        have hp1 := pre1 hro
        have hm1 := memR hro
        have hb1 := (hs1.2 c hcr).trans hbox
        refine OH [0, 3, 4, 18, 24] (fun e g3 => ∃ l2, hg g3 r .mk = some ⟨1, l2.map cI⟩ ∧ PX (BC zs) l1 l2 a mid ∧ CI h' g3 r) ?_ ?_
        · repeat (first | rw [ko] | rw [kr] | simp -dsimp -implicitDefEqProofs only [go_sem, CV])
          first
          | (refine AN (fun f4 => ?_) (fun f4 => ?_)
             · refine zr ?_
               have hc := ih a s mid l1 g2 (by omega) hr1 hb1 (by omega) (by omega) (by omega) (by omega) hp1.1 (rng hm1 (by omega) (by omega))
               rw [el1] at hc
               refine AA hc ?_
               rintro v g3 ⟨l2, hr2, hmg, hs2⟩
               refine zr ?_
               exact Da AL ⟨l2, hr2, hmg, hs1.trans hs2⟩
             · refine zr ?_
               exact Da AL ⟨l1, hr1, Fh hp1.1 (by omega), hs1⟩)
          | exact Da AL ⟨l1, hr1, Fh hp1.1 (by omega), hs1⟩
        rintro e3 g3 hks3 ⟨l2, hr2, hmg2, hs2⟩
        simp -dsimp -implicitDefEqProofs only [go_sem, sQ1] at hks3
        refine C5 hks3 f3 ?_
        have el2 := hmg2.1.1.trans el1
        have hp2 := hp1.2.out hmg2.1 (.inr (Nat.le_refl _)) (by omega) heb
        have hb2 := (hs2.2 c hcr).trans hbox
        have hm2 : Mem l l2 a b := hm1.trans ((hmg2.2.1.join (Mem.of_out (a := mid) (b := b) hmg2.1 (by omega)) (by omega) (by omega)))
        refine OH [0] (fun e g4 => ∃ l3, hg g4 r .mk = some ⟨1, l3.map cI⟩ ∧ PX (BC zs) l2 l3 mid b ∧ CI h' g4 r) ?_ ?_
        · repeat (first | rw [ko] | rw [kr] | simp -dsimp -implicitDefEqProofs only [go_sem, CV])
          first
          | (refine AN (fun f4 => ?_) (fun f4 => ?_)
             · refine zr ?_
               have hc := ih mid en b l2 g3 (by omega) hr2 hb2 (by omega) (by omega) (by omega) (by omega) hp2 (rng hm2 (by omega) (by omega))
               rw [el2] at hc
               refine AA hc ?_
               rintro v g4 ⟨l3, hr3, hmg, hs3⟩
               refine zr ?_
               exact Da AL ⟨l3, hr3, hmg, hs2.trans hs3⟩
             · refine zr ?_
               exact Da AL ⟨l2, hr2, Fh hp2 (by omega), hs2⟩)
          | exact Da AL ⟨l2, hr2, Fh hp2 (by omega), hs2⟩
        rintro e4 g4 hks4 ⟨l3, hr3, hmg3, hs3⟩
        refine zr ?_
        exact ⟨l3, hr3, fin hro (fun _ => hmg2) (fun _ => hmg3), hs3⟩
end Go.Bi
end
section
namespace Go.Bi
variable {K : Int → Int}
def Hv (K : Int → Int) (l : List Int) (bs n : Nat) : Prop := ∀ k, k * bs < n → Good K l (k * bs) (min (k * bs + bs) n)
def Pass (K : Int → Int) (l : List Int) (bs n j : Nat) : Prop := (∀ i, i < j → Good K l (i * (2 * bs)) (i * (2 * bs) + 2 * bs)) ∧ ∀ i, 2 * j ≤ i → i * bs < n → Good K l (i * bs) (min (i * bs + bs) n)
theorem Pass.start {l : List Int} {bs n : Nat} (h : Hv K l bs n) : Pass K l bs n 0 := ⟨fun i hi => by omega, fun i _ hi => h i hi⟩
theorem FN {j bs : Nat} : j * (2 * bs) = 2 * j * bs := by rw [Nat.mul_left_comm, ← Nat.mul_assoc]
theorem Pass.pair {l : List Int} {bs n j : Nat} (p : Pass K l bs n j) (h0 : 0 < bs) (hb : j * (2 * bs) + bs < n) : Good K l (j * (2 * bs)) (j * (2 * bs) + bs) ∧ Good K l (j * (2 * bs) + bs) (min (j * (2 * bs) + 2 * bs) n) := by
 have e1 : j * (2 * bs) = 2 * j * bs := FN
 have e2 : (2 * j + 1) * bs = j * (2 * bs) + bs := by rw [e1, Nat.succ_mul]
 have g1 := p.2 (2 * j) (Nat.le_refl _) (by omega)
 have g2 := p.2 (2 * j + 1) (by omega) (by omega)
 rw [← e1, Nat.min_eq_left (by omega)] at g1
 rw [e2, show j * (2 * bs) + bs + bs = j * (2 * bs) + 2 * bs by omega] at g2
 exact ⟨g1, g2⟩
theorem Good.rng {l : List Int} {a m b n : Nat} (p : Good K l a m) (q : Good K l m b) (hm : m ≤ b) (hn : b ≤ n) : ∀ i, a ≤ i → i < b → 0 ≤ Ao l i ∧ Ao l i < n := fun i h1 h2 => by
 by_cases hi : i < m
 ·have := p.2.1 i h1 hi; omega
 ·have := q.2.1 i (by omega) h2; omega
theorem Pass.step {l l' : List Int} {bs n j : Nat} (p : Pass K l bs n j) (h0 : 0 < bs) (hb : j * (2 * bs) + 2 * bs ≤ n)
  (m : NN K l (j * (2 * bs)) (j * (2 * bs) + bs) (j * (2 * bs) + 2 * bs) → PX K l l' (j * (2 * bs)) (j * (2 * bs) + 2 * bs)) : Pass K l' bs n (j + 1) := by
 have e1 : j * (2 * bs) = 2 * j * bs := FN
 have e2 : (2 * j + 1) * bs = j * (2 * bs) + bs := by rw [e1, Nat.succ_mul]
 have g1 := p.2 (2 * j) (Nat.le_refl _) (by omega)
 have g2 := p.2 (2 * j + 1) (by omega) (by omega)
 rw [← e1, Nat.min_eq_left (by omega)] at g1
 rw [e2, Nat.min_eq_left (by omega), show j * (2 * bs) + bs + bs = j * (2 * bs) + 2 * bs by omega] at g2
 have mm := m (g1.pre g2)
 have gm := g1.merge g2 mm (by omega) (by omega)
 refine ⟨fun i hi => ?_, fun i hi hn => ?_⟩
 ·by_cases hij : i = j
  ·subst hij; exact gm
  ·have : (i + 1) * (2 * bs) ≤ j * (2 * bs) := Nat.mul_le_mul_right _ (by omega)
   rw [Nat.succ_mul] at this
   exact (p.1 i (by omega)).out mm.1 (by omega)
 ·have : (2 * (j + 1)) * bs ≤ i * bs := Nat.mul_le_mul_right _ hi
  have e3 : 2 * (j + 1) * bs = j * (2 * bs) + 2 * bs := by rw [← FN, Nat.succ_mul]
  exact (p.2 i (by omega) hn).out mm.1 (by omega)
theorem Pass.last {l l' : List Int} {bs n j : Nat} (p : Pass K l bs n j) (h0 : 0 < bs) (hb : n < j * (2 * bs) + 2 * bs) (hj : j * (2 * bs) ≤ n)
  (m : j * (2 * bs) + bs < n → NN K l (j * (2 * bs)) (j * (2 * bs) + bs) n → PX K l l' (j * (2 * bs)) n) (m' : ¬ j * (2 * bs) + bs < n → l' = l) : Hv K l' (2 * bs) n := by
 have e1 : j * (2 * bs) = 2 * j * bs := FN
 have e2 : (2 * j + 1) * bs = j * (2 * bs) + bs := by rw [e1, Nat.succ_mul]
 have hk : ∀ k, k * (2 * bs) < n → k ≤ j := fun k hk => Decidable.byContradiction fun h => by
  have : (j + 1) * (2 * bs) ≤ k * (2 * bs) := Nat.mul_le_mul_right _ (by omega)
  rw [Nat.succ_mul] at this; omega
 by_cases hc : j * (2 * bs) + bs < n
 ·have g1 := p.2 (2 * j) (Nat.le_refl _) (by omega)
  have g2 := p.2 (2 * j + 1) (by omega) (by omega)
  rw [← e1, Nat.min_eq_left (by omega)] at g1
  rw [e2, Nat.min_eq_right (by omega)] at g2
  have mm := m hc (g1.pre g2)
  have gm := g1.merge g2 mm (by omega) (by omega)
  intro k hkn
  by_cases hkj : k = j
  ·subst hkj; rw [Nat.min_eq_right (by omega)]; exact gm
  ·have hk1 := hk k hkn
   have : (k + 1) * (2 * bs) ≤ j * (2 * bs) := Nat.mul_le_mul_right _ (by omega)
   rw [Nat.succ_mul] at this
   rw [Nat.min_eq_left (by omega)]
   exact (p.1 k (by omega)).out mm.1 (by omega)
 ·have := m' hc
  subst this
  intro k hkn
  by_cases hkj : k = j
  ·subst hkj
   have g1 := p.2 (2 * k) (Nat.le_refl _) (by omega)
   rw [← e1] at g1
   rw [Nat.min_eq_right (by omega)] at g1 ⊢
   exact g1
  ·have hk1 := hk k hkn
   have : (k + 1) * (2 * bs) ≤ j * (2 * bs) := Nat.mul_le_mul_right _ (by omega)
   rw [Nat.succ_mul] at this
   rw [Nat.min_eq_left (by omega)]
   exact p.1 k (by omega)
theorem Hv.whole {l : List Int} {bs n : Nat} (h : Hv K l bs n) (hb : n ≤ bs) : Good K l 0 n := by
 by_cases h0 : 0 < n
 ·have := h 0 (by omega)
  rw [Nat.zero_mul, Nat.zero_add, Nat.min_eq_right hb] at this; exact this
 ·have : n = 0 := by omega
  subst this
  exact ⟨fun i j h1 h2 h3 => by omega, fun i h1 h2 => by omega, fun v h1 h2 => by omega⟩
end Go.Bi
end
section
set_option maxRecDepth 20000
namespace Go.Bi
open Go.Proofs
open Go.Ai (wrap_i64 wrap_u64 wrap_u8 Heap)
variable {W0 : World} {P : Program}
set_option maxHeartbeats 4000000
theorem Um {r c : Nat} {zs l : List Int} {f : AQ} {g : H2} (hcr : c ≠ r) (h3 : zs.length ≤ 400) (hrow : hg g r .mk = some ⟨1, l.map cI⟩) (hbox : hg g c .mk = some ⟨1, [.sl f 1 (ints zs)]⟩) (hl : l.length = zs.length)
  (hid : ∀ i, i < l.length → Ao l i = i) :
  A7 Tryz.prog W0 233 [.raw (.slice (some ⟨r, 0, none⟩) l.length l.length), .raw (.int .i64 l.length), .raw (.func (.func 198) #[] [.pointer (some ⟨c, 0, none⟩)].toArray)] g
   (fun v g' => ∃ l', hg g' r .mk = some ⟨1, l'.map cI⟩ ∧ l'.length = l.length ∧ Good (BC zs) l' 0 l.length ∧ CI g g' r) := by
 refine AH [[0, 1, 2], [0, 1, 2, 6], [0, 1, 2, 6, 7, 8], [0, 1, 2, 6, 7, 8], [0, 1, 2, 6, 8], [0, 1, 2, 6, 7, 8], [0, 1, 2, 6, 7], [0, 1, 2, 6], [0, 1, 2, 6], [0, 1, 2, 6, 7, 8], [0, 1, 2, 6, 7, 8], [0, 1, 2, 6, 8], [0, 1, 2, 6, 7, 8], [0, 1, 2, 6, 7], [0, 1, 2, 6, 7, 9], [0, 1, 2, 6, 7, 9], [0, 1, 2, 6]] Tryz.func233 rfl (rs := []) rfl rfl ?_
 intro wf
 refine zr ?_
 refine AJ [0, 1, 2, 6] (fun m e h' => ∃ (k : Nat) (l' : List Int), look e 7 .mk = .raw (.int .i64 ((20 * k : Nat) : Int)) ∧ look e 8 .mk = .raw (.int .i64 ((20 * k + 20 : Nat) : Int)) ∧ m + 20 * k = l.length ∧ hg h' r .mk = some ⟨1, l'.map cI⟩ ∧ l'.length = l.length ∧ (∀ j, j < k → Good (BC zs) l' (20 * j) (20 * j + 20)) ∧ (∀ i, 20 * k ≤ i → i < l.length → Ao l' i = i) ∧ CI g h' r) l.length ?_ ?_
 ·exact ⟨0, l, by simp -dsimp -implicitDefEqProofs only [go_sem, sQ4], (by simp -dsimp -implicitDefEqProofs only [go_sem, sQ4]; rfl), by omega, hrow, rfl, fun j hj => by omega, fun i _ hi => hid i hi, CI.refl⟩
 ·rintro m e h' hks ⟨k, l1, e7, e8, hm, hr, hll, hgood, hrest, hsm⟩
  simp -dsimp -implicitDefEqProofs only [go_sem, sQ1] at hks
  have hb1 := (hsm.2 c hcr).trans hbox
  refine DH hks e7 e8 ?_
  refine AN (fun q1 => ?_) (fun q1 => ?_)
  ·refine zr ?_
   have hc := LQ (W0 := W0) (a := 20 * k) (b := 20 * k + 20) hr hb1 hcr (by omega) (by omega) (by omega) (by omega) (fun i h1 h2 => hrest i h1 (by omega))
   rw [hll] at hc
   refine AA hc ?_
   rintro v g2 ⟨l2, hr2, ho2, hg2, hs2⟩
   have wb : IntKind.i64.wrap (((20 * k + 20 : Nat) : Int) + 20) = ((20 * (k + 1) + 20 : Nat) : Int) := by rw [wrap_i64] <;> omega
   refine A1 wb ?_
   refine AI (m - 20) (by omega) AL ⟨k + 1, l2, (by simp -dsimp -implicitDefEqProofs only [go_sem, sQ1]; rfl), AL, by omega, hr2, ho2.1.trans hll, fun j hj => ?_, fun i h1 h2 => (ho2.2 i (by omega)).trans (hrest i (by omega) h2), hsm.trans hs2⟩
   by_cases hjk : j = k
   ·subst hjk; exact hg2
   ·exact (hgood j (by omega)).out ho2 (by omega)
  ·refine zr ?_
   have hc := LQ (W0 := W0) (a := 20 * k) (b := l1.length) hr hb1 hcr (by omega) (by omega) (by omega) (by omega) (fun i h1 h2 => hrest i h1 (by omega))
   rw [hll] at hc
   refine AA hc ?_
   rintro v g2 ⟨l2, hr2, ho2, hg2, hs2⟩
   have hall : Hv (BC zs) l2 20 l.length := fun j hj => by
    by_cases hjk : j < k
    ·have := (hgood j hjk).out ho2 (by omega)
     rw [Nat.mul_comm, Nat.min_eq_left (by omega)]; exact this
    ·have : j = k := by omega
     subst this
     rw [Nat.mul_comm, Nat.min_eq_right (by omega)]; exact hg2
   refine zr ?_
   have hsm2 := hsm.trans hs2
   have hl2 := ho2.1.trans hll
   refine AJ [0, 1, 2] (fun m e h' => ∃ (bs : Nat) (l' : List Int), look e 6 .mk = .raw (.int .i64 bs) ∧ m = l.length - bs ∧ 20 ≤ bs ∧ bs ≤ 800 ∧ hg h' r .mk = some ⟨1, l'.map cI⟩ ∧ l'.length = l.length ∧ Hv (BC zs) l' bs l.length ∧ CI g h' r) (l.length - 20) ?_ ?_
   ·exact ⟨20, l2, (by simp -dsimp -implicitDefEqProofs only [go_sem, sQ1]; rfl), rfl, by omega, by omega, hr2, hl2, hall, hsm2⟩
   ·rintro m2 e2 h2 hks2 ⟨bs, l3, e6, hm2, hb20, hb8, hr3, hl3, hga, hs3⟩
    simp -dsimp -implicitDefEqProofs only [go_sem, sQ1] at hks2
    refine C5 hks2 e6 ?_
    refine AN (fun q2 => ?_) (fun q2 => ?_)
    ·have w2 : IntKind.i64.wrap (2 * (bs : Int)) = ((2 * bs : Nat) : Int) := by rw [wrap_i64] <;> omega
     refine A1 w2 ?_
     refine H4 4 [0, 1, 2, 6] (fun m e h' => ∃ (j : Nat) (l' : List Int), look e 7 .mk = .raw (.int .i64 ((j * (2 * bs) : Nat) : Int)) ∧ look e 8 .mk = .raw (.int .i64 ((j * (2 * bs) + 2 * bs : Nat) : Int)) ∧ m + j * (2 * bs) = l.length ∧ hg h' r .mk = some ⟨1, l'.map cI⟩ ∧ l'.length = l.length ∧ Pass (BC zs) l' bs l.length j ∧ CI g h' r)
      (fun e h' => ∃ (j : Nat) (l' : List Int), look e 7 .mk = .raw (.int .i64 ((j * (2 * bs) : Nat) : Int)) ∧ j * (2 * bs) ≤ l.length ∧ l.length < j * (2 * bs) + 2 * bs ∧ hg h' r .mk = some ⟨1, l'.map cI⟩ ∧ l'.length = l.length ∧ Pass (BC zs) l' bs l.length j ∧ CI g h' r) l.length ?_ ?_ ?_
     ·exact ⟨0, l3, (by simp -dsimp -implicitDefEqProofs only [go_sem, Nat.zero_mul]), (by simp -dsimp -implicitDefEqProofs only [go_sem, Nat.zero_mul, Nat.zero_add]), by omega, hr3, hl3, Pass.start hga, hs3⟩
     ·rintro m3 e3 h3' hks3 ⟨j, l4, e7, e8, hm3, hr4, hl4, hp, hs4⟩
      simp -dsimp -implicitDefEqProofs only [go_sem, sQ1] at hks3
      have hb4 := (hs4.2 c hcr).trans hbox
      refine DH hks3 e7 e8 ?_
      refine AN (fun q3 => ?_) (fun q3 => ?_)
      ·have w3 : IntKind.i64.wrap (((j * (2 * bs) : Nat) : Int) + (bs : Int)) = ((j * (2 * bs) + bs : Nat) : Int) := wrap_add (by omega)
       have w4 : IntKind.i64.wrap (((j * (2 * bs) + 2 * bs : Nat) : Int) + ((2 * bs : Nat) : Int)) = (((j + 1) * (2 * bs) + 2 * bs : Nat) : Int) := by rw [wrap_add (by omega), Nat.add_mul j 1, Nat.one_mul]
       refine A1 w3 ?_
       obtain ⟨ga, gb⟩ := hp.pair (by omega) (by omega)
       rw [Nat.min_eq_left (by omega)] at gb
       have hc := KV (W0 := W0) hcr h3 l.length (j * (2 * bs)) (j * (2 * bs) + bs) (j * (2 * bs) + 2 * bs) l4 h3' (by omega) hr4 hb4 (by omega) (by omega) (by omega) (by omega) (ga.pre gb) (ga.rng gb (by omega) (by omega))
       rw [hl4] at hc
       refine AA hc ?_
       rintro v g5 ⟨l5, hr5, hmg, hs5⟩
       refine zr ?_
       exact AI (m3 - 2 * bs) (by omega) AL ⟨j + 1, l5, (by simp -dsimp -implicitDefEqProofs only [go_sem, sQ1]; rw [Nat.add_mul j 1, Nat.one_mul]), by simp -dsimp -implicitDefEqProofs only [go_sem, w2, w4], by rw [Nat.add_mul j 1, Nat.one_mul]; omega, hr5, hmg.1.1.trans hl4, hp.step (by omega) (by omega) (fun _ => hmg), hs4.trans hs5⟩
      ·refine zr ?_
       exact Er AL ⟨j, l4, AL, by omega, by omega, hr4, hl4, hp, hs4⟩
     ·rintro e3 h3' hks3 ⟨j, l4, e7, hj1, hj2, hr4, hl4, hp, hs4⟩
      simp -dsimp -implicitDefEqProofs only [go_sem, sQ1] at hks3
      have hb4 := (hs4.2 c hcr).trans hbox
      have w3 : IntKind.i64.wrap (((j * (2 * bs) : Nat) : Int) + (bs : Int)) = ((j * (2 * bs) + bs : Nat) : Int) := wrap_add (by omega)
      have w5 : IntKind.i64.wrap ((bs : Int) * 2) = ((2 * bs : Nat) : Int) := by rw [wrap_i64] <;> omega
      refine DH hks3 e7 w3 ?_
      refine AN (fun q3 => ?_) (fun q3 => ?_)
      ·obtain ⟨ga, gb⟩ := hp.pair (by omega) (by omega)
       rw [Nat.min_eq_right (by omega)] at gb
       have hc := KV (W0 := W0) hcr h3 l.length (j * (2 * bs)) (j * (2 * bs) + bs) l.length l4 h3' (by omega) hr4 hb4 (by omega) (by omega) (by omega) (by omega) (ga.pre gb) (ga.rng gb (by omega) (by omega))
       rw [hl4] at hc
       refine zr ?_
       refine AA hc ?_
       rintro v g5 ⟨l5, hr5, hmg, hs5⟩
       refine A1 w5 ?_
       exact AI (l.length - 2 * bs) (by omega) AL ⟨2 * bs, l5, AL, rfl, by omega, by omega, hr5, hmg.1.1.trans hl4, hp.last (by omega) (by omega) (by omega) (fun _ _ => hmg) (fun h => absurd (by omega) h), hs4.trans hs5⟩
      ·refine A1 w5 ?_
       exact AI (l.length - 2 * bs) (by omega) AL ⟨2 * bs, l4, AL, rfl, by omega, by omega, hr4, hl4, hp.last (by omega) (by omega) (by omega) (fun h => absurd h (by omega)) (fun _ => rfl), hs4⟩
    ·refine zr ?_
     exact ⟨l3, hr3, hl3, hga.whole (by omega), hs3⟩
end Go.Bi
end
section
set_option maxRecDepth 20000
namespace Go.Bi
open Go.Proofs
variable {W0 : World} {P : Program}
theorem iO (b : Bool) : (b == b) = true := by simp
attribute [go_sem] iO
end Go.Bi
end
section
set_option maxRecDepth 20000
namespace Go.Bi
open Go.Proofs
open Go.Ai (wrap_i64 wrap_u64 wrap_u8 Heap)
variable {W0 : World} {P : Program}
def rv : Nat → List UInt8 → Option (Nat × Nat)
 | 0, _ => none
 | _ + 1, [] => none
 | f + 1, b :: r => if b.toNat < 128 then some (b.toNat, 1) else match rv f r with
  | some (n, j) => some (b.toNat % 128 + 128 * n, j + 1)
  | none => none
end Go.Bi
end
section
set_option maxRecDepth 20000
namespace Go.Bi
open Go.Proofs
open Go.Ai (wrap_i64 wrap_u64 wrap_u8 Heap)
variable {W0 : World} {P : Program}
def S2 (x : X) : Prop := (∃ v, x = .raw v) ∨ ∃ vs : List Value, x = .tp (vs.map .raw)
theorem S2.fz {p q : Nat → Prop} {g : H2} {x : X} (h : S2 x) : Fz p q g x x := by
 rcases h with ⟨v, rfl⟩ | ⟨vs, rfl⟩
 ·exact .raw
 ·refine .tp rfl fun i hi hi' => ?_
  simp only [List.getElem_map]; exact .raw
theorem PW.plain {f : FuncId} {xs : List X} {g : H2} {Q : X → Prop} (c : A7 P W0 f xs g fun x g' => g.le g' ∧ S2 x ∧ Q x) : PW P W0 f xs g Q :=
 (PW.of (q := fun _ => True) (Q := Q) (c.mono fun x g' ⟨h1, h2, h3⟩ => ⟨h1, x, h2.fz, h3⟩)).mono fun y h => h.1
end Go.Bi
end
section
set_option maxRecDepth 20000
namespace Go.Bi
open Go.Proofs
open Go.Ai (wrap_i64 wrap_u64 wrap_u8 Heap)
variable {W0 : World} {P : Program}
theorem LB {D : Nat → Option (List Nat)} {g : H2} {K : KT} {t u U y N : Nat} {xs : List Int} {x : X} {f : AQ} {s : Int} (he : Go.Ai.elt? P t = some (U, 1, y)) (hz : Go.Ai.zr? P U = some [.int .i64 0]) (hu : Go.Ai.cls? P u = some .sl)
  (hx : Al N g x xs) (hN0 : N ≤ hn g .mk) (hn0 : (xs.length + 1) * (y + 1) ≤ Go.Ai.most)
  (hk : ∀ v' g', Al N g' v' (xs ++ [s]) → hn g .mk ≤ hn g' .mk → (∀ g0 : H2, hn g0 .mk ≤ N → g0.le g → g0.le g') → (∀ c, c < hn g .mk → AP x ≠ some c → hg g' c .mk = hg g c .mk) → kz K v' g' .mk) :
  az (EN P g .append [t, u] [x, .sl f 1 [[.v (.int .i64 s)]]] .mk) K .mk := by
 refine DO (z := 0) (m := 1) (news := [cI s]) (N := N) he hz rfl hu hx hN0 rfl rfl rfl hn0 ?_
 intro v' g' o
 refine hk v' g' ?_
 unfold Al
 rw [List.map_append, List.length_append]
 exact o
end Go.Bi
end
section
set_option maxRecDepth 20000
namespace Go.Bi
open Go.Proofs
open Go.Ai (wrap_i64 wrap_u64 wrap_u8 Heap)
variable {W0 : World} {P : Program}
set_option maxHeartbeats 4000000
theorem M0 {r c : Nat} {zs l : List Int} {f : AQ} {g : H2} (hcr : c ≠ r) (h3 : zs.length ≤ 400) (hrow : hg g r .mk = some ⟨1, l.map cI⟩) (hbox : hg g c .mk = some ⟨1, [.sl f 1 (ints zs)]⟩) (hl : l.length = zs.length)
  (hid : ∀ i, i < l.length → Ao l i = i) :
  A7 Tryz.prog W0 197 [.raw (.slice (some ⟨r, 0, none⟩) l.length l.length), .raw (.func (.func 198) #[] [.pointer (some ⟨c, 0, none⟩)].toArray)] g
   (fun v g' => ∃ l', hg g' r .mk = some ⟨1, l'.map cI⟩ ∧ l'.length = l.length ∧ Good (BC zs) l' 0 l.length ∧ CI g g' r) := by
 refine AH [[0, 1]] Tryz.func197 rfl (rs := []) rfl rfl ?_
 intro wf
 refine zr ?_
 refine AA (Um hcr h3 hrow hbox hl hid) ?_
 rintro v g2 ⟨l', h1, h2, h4, h5⟩
 refine zr ?_
 exact ⟨l', h1, h2, h4, h5⟩
end Go.Bi
end
section
set_option maxRecDepth 20000
namespace Go.Bi
open Go.Proofs
open Go.Ai (wrap_i64 wrap_u64 wrap_u8 Heap)
variable {W0 : World} {P : Program}
set_option maxHeartbeats 4000000
def CP (lo : List Int) (k : Int) : List Int := if inI k 1 8 = true ∧ lo.length ≤ 400 then EJ (BC lo) lo.length (min k.toNat lo.length) else []
theorem Al.blk {N : Nat} {g : H2} {v : X} {zs : List Int} (o : Al N g v zs) (h : zs ≠ []) : ∃ b, v = .raw (.slice (some ⟨b, 0, none⟩) zs.length zs.length) ∧ N ≤ b ∧ b < hn g .mk ∧ hg g b .mk = some ⟨1, zs.map cI⟩ := by
 obtain ⟨_, h1 | h1⟩ := o
 ·exact absurd (List.eq_nil_of_length_eq_zero h1.2) h
 ·exact h1
def upto (n : Nat) : List Int := (List.range n).map Int.ofNat
theorem Vh {n : Nat} : upto (n + 1) = upto n ++ [(n : Int)] := by simp [upto, List.range_succ]
theorem DX {n : Nat} : (upto n).length = n := by simp [upto]
theorem Xk {n i : Nat} (h : i < n) : Ao (upto n) i = i := by simp [Ao, upto, List.getD_eq_getElem?_getD, List.getElem?_range h]
theorem cP {a b : Int} {n : Nat} (h : 0 ≤ a) (hb : b = (n : Int)) : 0 ≤ Go.Ai.mnI a b ∧ Go.Ai.mnI a b ≤ n ∧ (Go.Ai.mnI a b).toNat = min a.toNat n := by
 unfold Go.Ai.mnI; split <;> omega
theorem PC {f : AQ} {zs : List Int} {k : Int} {g : H2} : PI Tryz.prog W0 147 [.sl f 1 (ints zs), .raw (.int .i64 k)] g (CP zs k) := by
 refine A7.cut (K := fun x g' => g.le g' ∧ ((x = .raw (.slice none 0 0) ∧ CP zs k = []) ∨ ∃ (r m : Nat) (l : List Int), x = .raw (.slice (some ⟨r, 0, none⟩) m m) ∧ hn g .mk ≤ r ∧ r < hn g' .mk ∧ hg g' r .mk = some ⟨1, l.map cI⟩ ∧ m ≤ l.length ∧ l.take m = CP zs k)) ?_ ?_
 ·refine AH [[0, 1], [1, 2], [], [1, 2], [1, 2, 5], [1, 2, 5, 17, 18], [1, 2, 5, 17, 18], [1, 2, 5, 6, 17, 18], [1, 2, 5, 17, 18], [1, 2, 5], [1, 5]] Tryz.func147 rfl (rs := [.tmp 4]) rfl rfl ?_
  intro wf
  refine zr ?_
  refine AA BQ ?_
  rintro _ h1 ⟨rfl, rfl⟩
  have early : ¬ (inI k 1 8 = true ∧ zs.length ≤ 400) → CP zs k = [] := fun h => if_neg h
  cases hin : inI k 1 8
  ·refine zr ?_
   exact ⟨le_push (H2.le.refl _), .inl ⟨rfl, early (by rw [hin]; simp)⟩⟩
  ·refine zr ?_
   refine AN (fun h2 => ?_) (fun h2 => ?_)
   ·refine zr ?_
    exact ⟨le_push (H2.le.refl _), .inl ⟨rfl, early (by omega)⟩⟩
   ·refine zr ?_
    have hk2 := Pq hin
    refine H4 0 [1, 2] (fun m e h' => ∃ (i r : Nat), look e 17 .mk = .raw (.int .i64 zs.length) ∧ look e 18 .mk = .raw (.int .i64 (i : Nat)) ∧ m + i = zs.length ∧ look e 5 .mk = .raw (.slice (some ⟨r, 0, none⟩) i i) ∧ hn g .mk < r ∧ r < hn h' .mk ∧ hg h' r .mk = some ⟨1, (upto i).map cI⟩ ∧ g.le h' ∧ hg h' (hn g .mk) .mk = some ⟨1, [.sl f 1 (ints zs)]⟩)
     (fun e h' => ∃ (r : Nat), look e 5 .mk = .raw (.slice (some ⟨r, 0, none⟩) zs.length zs.length) ∧ hn g .mk < r ∧ r < hn h' .mk ∧ hg h' r .mk = some ⟨1, (upto zs.length).map cI⟩ ∧ g.le h' ∧ hg h' (hn g .mk) .mk = some ⟨1, [.sl f 1 (ints zs)]⟩) zs.length ?_ ?_ ?_
    ·exact ⟨0, hn g .mk + 1, AL, AL, by omega, AL, by omega, by simp -dsimp -implicitDefEqProofs only [go_sem] <;> omega, by simp -dsimp -implicitDefEqProofs only [go_sem] <;> rfl, le_push (le_push (H2.le.refl _)), by simp -dsimp -implicitDefEqProofs only [go_sem] <;> simp⟩
    ·rintro m e h' hks ⟨i, r, e17, e18, hm, e5, hr1, hr2, hr3, hle, hbox⟩
     simp -dsimp -implicitDefEqProofs only [go_sem, sQ1] at hks
     refine Cu hks e17 e18 e5 ?_
     refine AN (fun h3 => ?_) (fun h3 => ?_)
     ·have w1 := BE i (by omega)
      refine zr ?_
      have ow : Al (hn g .mk + 1) h' (.raw (.slice (some ⟨r, 0, none⟩) i i)) (upto i) := ⟨by simp [DX], .inr ⟨r, by rw [DX], by omega, hr2, hr3⟩⟩
      refine LB (P := Tryz.prog) (D := fun _ => none) (N := hn g .mk + 1) Go.Ai.ty_el25 Go.Ai.ty_zr3 Go.Ai.ty_cl25 (ow.keep (HO (H2.le.refl _))) (by rw [AF]; omega) (by rw [DX]; have : Go.Ai.most = 1099511627776 := rfl; omega) ?_
      intro v' g6 ow6 nn6 le6 on6
      rw [← Vh] at ow6
      obtain ⟨b, rfl, hb1, hb2, hb3⟩ := ow6.blk (by intro e; have := congrArg List.length e; simp [DX] at this)
      rw [DX] at *
      refine A1 w1 ?_
      refine AI (m - 1) (by omega) AL ⟨i + 1, b, AL, AL, by omega, AL, by omega, hb2, hb3, le6 g (by omega) (HO hle), ?_⟩
      exact (on6 _ (by rw [AF]; omega) (by intro e; simp only [AP, Option.some.injEq] at e; omega)).trans hbox
     ·refine zr ?_
      have : i = zs.length := by omega
      subst this
      exact Er AL ⟨r, AL, hr1, hr2, hr3, hle, hbox⟩
    ·rintro e h' hks ⟨r, e5, hr1, hr2, hr3, hle, hbox⟩
     simp -dsimp -implicitDefEqProofs only [go_sem, sQ1] at hks
     refine C5 hks e5 ?_
     have hc := M0 (W0 := W0) (l := upto zs.length) (zs := zs) (f := f) (r := r) (c := hn g .mk) (by omega) (by omega) hr3 hbox DX (fun i hi => Xk (by rw [DX] at hi; exact hi))
     rw [DX] at hc
     refine AA hc ?_
     rintro v g7 ⟨l', hl1, hl2, hl3, hsm⟩
     obtain ⟨mn1, mn2, mn3⟩ := cP (a := k) (b := (zs.length : Int)) (n := zs.length) (by omega) rfl
     repeat (first | rw [ko] | rw [kr] | simp -dsimp -implicitDefEqProofs only [go_sem, sQ1, hl1, mn1, mn2, Nat.sub_zero, Nat.zero_mul])
     have ht : CP zs k = l'.take (Go.Ai.mnI k (zs.length : Int)).toNat := by
      rw [CP, if_pos ⟨hin, by omega⟩, mn3]
      exact TY hl3 hl2 (Nat.min_le_right _ _)
     have hlen : l'.length = zs.length := hl2
     have hle7 : g.le g7 := ⟨by rw [hsm.1]; exact hle.1, fun b hb => (hsm.2 b (by omega)).trans (hle.2 b hb)⟩
     refine ⟨hle7, .inr ⟨r, _, l', rfl, by omega, by rw [hsm.1]; exact hr2, hl1, by rw [hlen, mn3]; exact Nat.min_le_right _ _, ht.symm⟩⟩
 ·rintro x g' ⟨hle, h | ⟨r, m, l, rfl, h1, h2, h3, h4, h5⟩⟩
  ·rw [h.1, h.2]
   exact .inl ⟨hle, .nil⟩
  ·refine .inr ⟨r, m, _, h3, cd (k := ⟨1, l.map cI⟩) hle h1, ?_⟩
   rw [← h5]
   have hm : (l.take m).length = m := by rw [List.length_take]; omega
   refine ⟨by simp, .inr ⟨r, by rw [hm], h1, h2, ?_⟩⟩
   rw [eF h3, if_pos rfl, List.map_take]
end Go.Bi
end
section
set_option maxRecDepth 20000
namespace Go.Bi
open Go.Proofs
open Go.Ai (wrap_i64 wrap_u64 wrap_u8 Heap)
variable {W0 : World} {P : Program}
set_option maxHeartbeats 4000000
theorem X9 {f : AQ} {zs : List Int} {x : Int} {g : H2} (hs : zs.length ≤ 1048576) : PW Tryz.prog W0 143 [.sl f 1 (ints zs), .raw (.int .i64 x)] g (fun y => y = .raw (.bool (decide (x ∈ zs)))) := by
 refine PW.scalar ((?_ : A7 _ _ _ _ _ fun v g' => g' = g ∧ v = .raw (.bool (decide (x ∈ zs)))).mono fun v g' ⟨h1, h2⟩ => ⟨by rw [h1]; exact H2.le.refl _, ⟨_, h2⟩, h2⟩)
 refine AH [[0, 1], [0, 1], [0, 1, 5], [0, 1, 5], [0, 1, 5], [], []] Tryz.func143 rfl (rs := [.tmp 4]) rfl rfl ?_
 intro wf
 refine zr ?_
 refine AJ [0, 1] (fun m e h' => ∃ i : Nat, h' = g ∧ look e 5 .mk = .raw (.int .i64 (i : Nat)) ∧ m + i = zs.length ∧ ∀ j, j < i → zs.getD j default ≠ x) zs.length ?_ ?_
 ·exact ⟨0, rfl, AL, by omega, fun j hj => by omega⟩
 ·rintro m e h' hks ⟨i, rfl, e5, hm, hpre⟩
  simp -dsimp -implicitDefEqProofs only [go_sem, sQ1] at hks
  refine C5 hks e5 ?_
  refine AN (fun h2 => ?_) (fun h2 => ?_)
  ·have h3 : i < zs.length := by omega
   refine A1 h3 ?_
   refine AN (fun h4 => ?_) (fun h4 => ?_)
   ·refine zr ?_
    have : x ∈ zs := by
     rw [← h4, List.getD_eq_getElem?_getD, List.getElem?_eq_getElem h3]; exact List.getElem_mem h3
    exact ⟨rfl, by rw [decide_eq_true this]⟩
   ·have w1 := BE i (by omega)
    refine A1 w1 ?_
    refine AI (m - 1) (by omega) AL ⟨i + 1, rfl, AL, by omega, fun j hj => ?_⟩
    by_cases hji : j = i
    ·subst hji; exact h4
    ·exact hpre j (by omega)
  ·refine zr ?_
   refine ⟨rfl, ?_⟩
   rw [decide_eq_false]
   intro hx
   obtain ⟨j, hj, e⟩ := List.getElem_of_mem hx
   refine hpre j (by omega) ?_
   rw [List.getD_eq_getElem?_getD, List.getElem?_eq_getElem hj]; exact e
theorem Al.lenb {N : Nat} {g h : H2} {v : X} {zs : List Int} {t : TypeId} (o : Al N g v zs) (hc : Go.Ai.cls? P t = some .sl) : EN P h .len [t] [v] .mk = some (.raw (.int .i64 zs.length), h) := by
 obtain ⟨_, ⟨rfl, h0⟩ | ⟨b, rfl, _⟩⟩ := o
 ·rw [N9 hc, h0]
 ·rw [N9 hc]
theorem GB {K : Int → Int} {n : Nat} : ∀ {k : Nat}, (EJ K n k).length = k
 | 0 => rfl
 | k + 1 => by rw [EJ, List.length_append, GB]; rfl
theorem NF {K : Int → Int} {out : List Int} {n : Nat} : ∀ {d : Nat}, d ≤ n → B9 K out n d = -1 ∨ (0 ≤ B9 K out n d ∧ B9 K out n d < n)
 | 0, _ => .inl rfl
 | d + 1, h => by
  rw [B9]; split
  ·omega
  ·exact NF (by omega)
theorem PE {f : AQ} {zs : List Int} {k : Int} {g : H2} (hs : zs.length ≤ 1048576) : PI Tryz.prog W0 83 [.sl f 1 (ints zs), .raw (.int .i64 k)] g (CP zs k) := by
 refine AH [[0, 1], [0, 1], [0, 1, 5], [5], [0, 1, 5], [0, 1, 5], [0, 1, 5, 6], [0, 1, 5, 6, 7], [0, 1, 5, 6, 7], [0, 1, 5, 6, 7], [0, 1, 5, 7], [0, 1, 5, 6], [5]] Tryz.func83 rfl (rs := [.tmp 4]) rfl rfl ?_
 intro wf
 refine zr ?_
 refine AA Ab ?_
 rintro _ h1 ⟨rfl, rfl⟩
 have early : ¬ (inI k 1 8 = true ∧ zs.length ≤ 400) → CP zs k = [] := fun h => if_neg h
 cases hin : inI k 1 8
 ·refine zr ?_
  exact ⟨le_push (H2.le.refl _), by rw [early (by rw [hin]; simp)]; exact Own.new (Nat.le_refl _) rfl⟩
 ·refine zr ?_
  refine AN (fun h2 => ?_) (fun h2 => ?_)
  ·refine zr ?_
   exact ⟨le_push (H2.le.refl _), by rw [early (by omega)]; exact Own.new (Nat.le_refl _) rfl⟩
  ·refine zr ?_
   have hk2 := Pq hin
   refine AJ [0, 1] (fun m e h' => ∃ (j : Nat) (v : X), look e 5 .mk = v ∧ j ≤ zs.length ∧ (j : Int) ≤ k ∧ m + j = zs.length ∧ Al (hn g .mk) h' v (EJ (BC zs) zs.length j) ∧ g.le h') zs.length ?_ ?_
   ·exact ⟨0, _, by simp -dsimp -implicitDefEqProofs only [go_sem, sQ1] <;> rfl, by omega, by omega, by omega, Own.new (Nat.le_refl _) rfl, le_push (H2.le.refl _)⟩
   ·rintro m e h' hks ⟨j, v, e5, hj1, hj2, hm, ho, hle⟩
    simp -dsimp -implicitDefEqProofs only [go_sem, sQ1] at hks
    have hl : ∀ (t : TypeId) (h : H2), Go.Ai.cls? Tryz.prog t = some .sl → EN Tryz.prog h .len [t] [v] .mk = some (.raw (.int .i64 (j : Nat)), h) := fun t h hc => by
     rw [ho.lenb hc, GB]
    by_cases h3 : (j : Int) < k
    ·by_cases h4 : (j : Int) < zs.length
     ·have w1 : IntKind.i64.wrap ((zs.length : Int) - 1) = (zs.length : Int) - 1 - ((0 : Nat) : Int) := by rw [wrap_i64] <;> omega
      refine FD hks e5 hl h3 h4 ?_
      refine H4 2 [0, 1, 5] (fun m e h' => ∃ d : Nat, look e 7 .mk = .raw (.int .i64 ((zs.length : Int) - 1 - (d : Nat))) ∧ look e 6 .mk = .raw (.int .i64 (B9 (BC zs) (EJ (BC zs) zs.length j) zs.length d)) ∧ m + d = zs.length ∧ Al (hn g .mk) h' v (EJ (BC zs) zs.length j) ∧ g.le h')
       (fun e h' => look e 6 .mk = .raw (.int .i64 (B9 (BC zs) (EJ (BC zs) zs.length j) zs.length zs.length)) ∧ Al (hn g .mk) h' v (EJ (BC zs) zs.length j) ∧ g.le h') zs.length ?_ ?_ ?_
      ·exact ⟨0, by simp -dsimp -implicitDefEqProofs only [go_sem, w1], by simp -dsimp -implicitDefEqProofs only [go_sem, sQ1] <;> rfl, by omega, ho, hle⟩
      ·rintro m2 e2 h2' hks2 ⟨d, e7, e6, hm2, ho2, hle2⟩
       simp -dsimp -implicitDefEqProofs only [go_sem, sQ1] at hks2
       by_cases h5 : 0 ≤ (zs.length : Int) - 1 - (d : Nat)
       ·refine Cu hks2 e7 e6 h5 ?_
        refine AO [(0, []), (1, []), (2, []), (3, []), (4, []), (5, []), (6, []), (7, []), (8, []), (9, []), (10, []), (11, []), (12, []), (13, []), (14, []), (15, []), (16, []), (17, []), (18, [])] (by kernel_rfl) ?_
        refine zr ?_
        obtain ⟨F, hF⟩ := ho2.lent
        refine AD (PW.lend (.cons hF (.cons Mq .nil)) (X9 (by rw [GB]; omega)) (fun y hy => by subst hy; exact .raw)) ?_
        rintro _ n6 hn6 rfl
        obtain ⟨i, hi⟩ : ∃ i : Nat, (zs.length : Int) - 1 - (d : Nat) = (i : Nat) := ⟨zs.length - 1 - d, by omega⟩
        have hi2 : i < zs.length := by omega
        have wd : IntKind.i64.wrap ((zs.length : Int) - 1 - (d : Nat) - 1) = (zs.length : Int) - 1 - ((d + 1 : Nat) : Int) := by rw [wrap_i64] <;> omega
        rw [hi] at e7 wd
        have hup := AK hle2 hn6
        have houp := ho2.keep (AK (H2.le.refl _) hn6)
        have hb := NF (K := BC zs) (out := EJ (BC zs) zs.length j) (n := zs.length) (d := d) (by omega)
        have hstep : B9 (BC zs) (EJ (BC zs) zs.length j) zs.length (d + 1) = if (i : Int) ∉ EJ (BC zs) zs.length j ∧ (B9 (BC zs) (EJ (BC zs) zs.length j) zs.length d < 0 ∨ BC zs (B9 (BC zs) (EJ (BC zs) zs.length j) zs.length d) ≤ BC zs (i : Int)) then (i : Int) else B9 (BC zs) (EJ (BC zs) zs.length j) zs.length d := by rw [B9, hi]
        have kk : ∀ i : Nat, BC zs (i : Int) = zs.getD i default := fun i => by rw [BC, Ao, Int.toNat_natCast]; rfl
        rw [hi]
        by_cases hmem : (i : Int) ∈ EJ (BC zs) zs.length j
        ·rw [if_neg (fun h => h.1 hmem)] at hstep
         refine C5 hmem wd ?_
         exact AI (m2 - 1) (by omega) AL ⟨d + 1, AL, by simp -dsimp -implicitDefEqProofs only [go_sem, sQ1]; rw [hstep], by omega, houp, hup⟩
        ·by_cases hneg : B9 (BC zs) (EJ (BC zs) zs.length j) zs.length d < 0
         ·rw [if_pos ⟨hmem, .inl hneg⟩] at hstep
          refine DH hmem hneg wd ?_
          exact AI (m2 - 1) (by omega) AL ⟨d + 1, AL, by simp -dsimp -implicitDefEqProofs only [go_sem, sQ1]; rw [hstep], by omega, houp, hup⟩
         ·obtain ⟨b, hbn⟩ := Int.eq_ofNat_of_zero_le (a := B9 (BC zs) (EJ (BC zs) zs.length j) zs.length d) (by omega)
          rw [hbn] at e6 hneg hstep hb ⊢
          have hb2 : b < zs.length := by omega
          rw [kk, kk] at hstep
          by_cases hge : zs.getD b default ≤ zs.getD i default
          ·rw [if_pos ⟨hmem, .inr hge⟩] at hstep
           refine PY hmem hneg hi2 hb2 hge wd ?_
           exact AI (m2 - 1) (by omega) AL ⟨d + 1, AL, by simp -dsimp -implicitDefEqProofs only [go_sem, sQ1]; rw [hstep], by omega, houp, hup⟩
          ·rw [if_neg (fun h => h.2.elim hneg hge)] at hstep
           refine PY hmem hneg hi2 hb2 hge wd ?_
           exact AI (m2 - 1) (by omega) AL ⟨d + 1, AL, by simp -dsimp -implicitDefEqProofs only [go_sem, sQ1]; rw [hstep], by omega, houp, hup⟩
       ·have : d = zs.length := by omega
        subst this
        refine Cu hks2 e7 e6 h5 ?_
        exact Er AL ⟨AL, ho2, hle2⟩
      ·rintro e3 h3' hks3 ⟨e6, ho3, hle3⟩
       simp -dsimp -implicitDefEqProofs only [go_sem, sQ1] at hks3
       refine C5 hks3 e6 ?_
       refine LB (P := Tryz.prog) (D := fun _ => none) (N := hn g .mk) Go.Ai.ty_el25 Go.Ai.ty_zr3 Go.Ai.ty_cl25 (ho3.keep (HO (H2.le.refl _))) (by rw [AF]; have := hle3.1; omega) (by rw [GB]; have : Go.Ai.most = 1099511627776 := rfl; omega) ?_
       intro v' g6 ow6 nn6 le6 on6
       refine zr ?_
       exact AI (m - 1) (by omega) AL ⟨j + 1, v', AL, by omega, by omega, by omega, ow6, le6 g (Nat.le_refl _) (HO hle3)⟩
     ·have : j = zs.length := by omega
      refine FD hks e5 hl h3 h4 ?_
      refine ⟨hle, ?_⟩
      rw [CP, if_pos ⟨hin, by omega⟩, Nat.min_eq_right (by omega), ← this]
      rw [← this] at ho; exact ho
    ·refine Cu hks e5 hl h3 ?_
     refine ⟨hle, ?_⟩
     rw [CP, if_pos ⟨hin, by omega⟩, Nat.min_eq_left (by omega), show k.toNat = j by omega]
     exact ho
end Go.Bi
end
section
set_option maxRecDepth 20000
namespace Go.Bi
open Go.Proofs
open Go.Ai (wrap_i64 wrap_u64 wrap_u8 Heap)
variable {W0 : World} {P : Program}
set_option maxHeartbeats 8000000
theorem Sk {m : AM} {past : List BS} {t : Nat} (ht : CA m) : 1 ≤ (Bn m past t).length ∧ (Bn m past t).length ≤ 300 ∧ ((Bn m past t).length : Int) = B2 m := by
 unfold Bn
 rw [CH]
 have h := Cz ht.head
 have h2 := (HL h.1).2.1
 have hv : B2 m = 256 + (m.merges.length : Int) := rfl
 exact ⟨by omega, h2, h.2.2⟩
end Go.Bi
end
section
set_option maxRecDepth 20000
namespace Go.Ai
open Go.Proofs
variable {W0 : World}
def inI (x a b : Int) : Bool := decide (a ≤ x) && decide (x ≤ b)
theorem Ab {x a b : Int} {h : Heap} : WC Tryz.prog W0 101 [.int .i64 x, .int .i64 a, .int .i64 b] h (fun v h' => v = .bool (inI x a b) ∧ h' = h) := by
 refine start (P := Tryz.prog) [[0, 1, 2], [0, 1, 2]] (by kernel_rfl) Tryz.func101 rfl (by decide) (by decide +kernel) (rs := [.tmp 6]) rfl rfl (Nat.le_of_ble_eq_true rfl) ?_
 repeat (first | rw [ko] | rw [kr] | simp -dsimp -implicitDefEqProofs only [go_sem, sQ1])
 refine AN (fun h1 => ?_) (fun h1 => ?_)
 ·repeat (first | rw [ko] | rw [kr] | simp -dsimp -implicitDefEqProofs only [go_sem, sQ1, decide_true, h1])
  exact ⟨by simp [inI, h1], rfl⟩
 ·repeat (first | rw [ko] | rw [kr] | simp -dsimp -implicitDefEqProofs only [go_sem, decide_false, h1])
  exact ⟨by simp [inI, h1], rfl⟩
theorem BQ {x a b : Int} {h : Heap} : WC Tryz.prog W0 118 [.int .i64 x, .int .i64 a, .int .i64 b] h (fun v h' => v = .bool (inI x a b) ∧ h' = h) := by
 refine start (P := Tryz.prog) [[0, 1, 2], [0, 1, 2]] (by kernel_rfl) Tryz.func118 rfl (by decide) (by decide +kernel) (rs := [.tmp 6]) rfl rfl (Nat.le_of_ble_eq_true rfl) ?_
 repeat (first | rw [ko] | rw [kr] | simp -dsimp -implicitDefEqProofs only [go_sem, sQ1])
 refine AN (fun h1 => ?_) (fun h1 => ?_)
 ·repeat (first | rw [ko] | rw [kr] | simp -dsimp -implicitDefEqProofs only [go_sem, sQ1, decide_true, h1])
  exact ⟨by simp [inI, h1], rfl⟩
 ·repeat (first | rw [ko] | rw [kr] | simp -dsimp -implicitDefEqProofs only [go_sem, decide_false, h1])
  exact ⟨by simp [inI, h1], rfl⟩
end Go.Ai
end
section
set_option maxRecDepth 20000
namespace Go.Ai
open Go.Proofs
variable {W0 : World}
def DG (a b : Int) : Int := if b ≤ 0 then 0 else if inI a (-1000000000000) 1000000000000 = true then (if a.tmod b < 0 then IntKind.i64.wrap (IntKind.i64.wrap (a.tdiv b) - 1) else IntKind.i64.wrap (a.tdiv b)) else 0
theorem P5 {a b : Int} {h : Heap} (hb : (b == 0) = false) : WC Tryz.prog W0 165 [.int .i64 a, .int .i64 b] h (fun v h' => v = .int .i64 (if a.tmod b < 0 then IntKind.i64.wrap (IntKind.i64.wrap (a.tdiv b) - 1) else IntKind.i64.wrap (a.tdiv b)) ∧ h' = h) := by
 refine start (P := Tryz.prog) [[0, 1], [0, 1], [0, 1, 5], [5], [5]] (by kernel_rfl) Tryz.func165 rfl (by decide) (by decide +kernel) (rs := [.tmp 4]) rfl rfl (Nat.le_of_ble_eq_true rfl) ?_
 repeat (first | rw [ko] | rw [kr] | simp -dsimp -implicitDefEqProofs only [go_sem, sQ1, hb])
 refine AN (fun h1 => ?_) (fun h1 => ?_)
 ·repeat (first | rw [ko] | rw [kr] | simp -dsimp -implicitDefEqProofs only [go_sem, sQ1])
  exact ⟨by rw [if_pos h1], rfl⟩
 ·repeat (first | rw [ko] | rw [kr] | simp -dsimp -implicitDefEqProofs only [go_sem, sQ1])
  exact ⟨by rw [if_neg h1], rfl⟩
theorem Ki {a b : Int} {h : Heap} : WC Tryz.prog W0 230 [.int .i64 a, .int .i64 b] h (fun v h' => v = .int .i64 (DG a b) ∧ h' = h) := by
 refine start (P := Tryz.prog) [[0, 1], [0, 1], [], [0, 1]] (by kernel_rfl) Tryz.func230 rfl (by decide) (by decide +kernel) (rs := [.tmp 4]) rfl rfl (Nat.le_of_ble_eq_true rfl) ?_
 repeat (first | rw [ko] | rw [kr] | simp -dsimp -implicitDefEqProofs only [go_sem])
 by_cases h1 : b ≤ 0
 ·repeat (first | rw [ko] | rw [kr] | simp -dsimp -implicitDefEqProofs only [go_sem, decide_true, Bool.not_true, h1])
  exact ⟨by simp [DG, h1], rfl⟩
 ·repeat (first | rw [ko] | rw [kr] | simp -dsimp -implicitDefEqProofs only [go_sem, sQ1, decide_false, Bool.not_false, h1])
  refine AA Ab ?_
  rintro _ h' ⟨rfl, rfl⟩
  cases h2 : inI a (-1000000000000) 1000000000000
  ·repeat (first | rw [ko] | rw [kr] | simp -dsimp -implicitDefEqProofs only [go_sem, decide_false, Bool.not_false, h1])
   exact ⟨by simp [DG, h2], rfl⟩
  ·repeat (first | rw [ko] | rw [kr] | simp -dsimp -implicitDefEqProofs only [go_sem, sQ1, decide_false, Bool.not_true, Bool.not_false, h1])
   refine AA (P5 (by simp; omega)) ?_
   rintro _ h' ⟨rfl, rfl⟩
   repeat (first | rw [ko] | rw [kr] | simp -dsimp -implicitDefEqProofs only [go_sem])
   exact ⟨by rw [DG, if_neg h1, if_pos h2], rfl⟩
theorem Km {a b : Int} {h : Heap} : WC Tryz.prog W0 188 [.int .i64 a, .int .i64 b] h (fun v h' => v = .int .i64 (DG a b) ∧ h' = h) := by
 refine start (P := Tryz.prog) [[0, 1], [0, 1], [], [0, 1], [0, 1, 5], [5], [5]] (by kernel_rfl) Tryz.func188 rfl (by decide) (by decide +kernel) (rs := [.tmp 4]) rfl rfl (Nat.le_of_ble_eq_true rfl) ?_
 repeat (first | rw [ko] | rw [kr] | simp -dsimp -implicitDefEqProofs only [go_sem])
 by_cases h1 : b ≤ 0
 ·repeat (first | rw [ko] | rw [kr] | simp -dsimp -implicitDefEqProofs only [go_sem, decide_true, Bool.not_true, h1])
  exact ⟨by simp [DG, h1], rfl⟩
 ·repeat (first | rw [ko] | rw [kr] | simp -dsimp -implicitDefEqProofs only [go_sem, sQ1, decide_false, Bool.not_false, h1])
  refine AA BQ ?_
  rintro _ h' ⟨rfl, rfl⟩
  cases h2 : inI a (-1000000000000) 1000000000000
  ·repeat (first | rw [ko] | rw [kr] | simp -dsimp -implicitDefEqProofs only [go_sem, decide_false, Bool.not_false, h1])
   exact ⟨by simp [DG, h2], rfl⟩
  ·have hb : (b == 0) = false := by simp; omega
   repeat (first | rw [ko] | rw [kr] | simp -dsimp -implicitDefEqProofs only [go_sem, sQ1, decide_false, Bool.not_true, Bool.not_false, h1, hb])
   refine AN (fun h3 => ?_) (fun h3 => ?_)
   ·repeat (first | rw [ko] | rw [kr] | simp -dsimp -implicitDefEqProofs only [go_sem, sQ1])
    exact ⟨by rw [DG, if_neg h1, if_pos h2, if_pos h3], rfl⟩
   ·repeat (first | rw [ko] | rw [kr] | simp -dsimp -implicitDefEqProofs only [go_sem, sQ1])
    exact ⟨by rw [DG, if_neg h1, if_pos h2, if_neg h3], rfl⟩
def G1 (x : Int) : Int := if 0 < x then 256 else if x < -4000 then 0 else (256 - (-x) % 177 + ((-x) % 177 * ((-x) % 177)) / 512) / 2 ^ ((-x) / 177).toNat
theorem Iq (m : Nat) (hm : m ≤ 60) : 0 < (2 : Int) ^ m ∧ (2 : Int) ^ m ≤ 1152921504606846976 := by
 have e : (2 : Int) ^ m = ((2 ^ m : Nat) : Int) := by norm_cast
 have h1 : 0 < 2 ^ m := Nat.pow_pos (by decide)
 have h2 : 2 ^ m ≤ 2 ^ 60 := Nat.pow_le_pow_right (by decide) hm
 rw [e]
 have h3 : 2 ^ 60 = 1152921504606846976 := by decide
 omega
theorem U6 {n : Int} {h : Heap} (h0 : 0 ≤ n ∧ n ≤ 60) : WC Tryz.prog W0 234 [.int .i64 n] h (fun v h' => v = .int .i64 (2 ^ n.toNat) ∧ h' = h) := by
 refine start (P := Tryz.prog) [[0], [0], [0, 3], [0, 3, 4], [0, 3, 4], [0, 3, 4], [3]] (by kernel_rfl) Tryz.func234 rfl (by decide) (by decide +kernel) (rs := [.tmp 2]) rfl rfl (Nat.le_of_ble_eq_true rfl) ?_
 repeat (first | rw [ko] | rw [kr] | simp -dsimp -implicitDefEqProofs only [go_sem])
 refine DZ (fun k e h' => h' = h ∧ look e 0 .mk = .int .i64 n ∧ ∃ i : Int, look e 4 .mk = .int .i64 i ∧ look e 3 .mk = .int .i64 (2 ^ i.toNat) ∧ 0 ≤ i ∧ (k : Int) + i = n) n.toNat ?_ ?_
 ·refine ⟨rfl, ?_, 0, ?_, ?_, by omega, by omega⟩ <;> simp -dsimp -implicitDefEqProofs only [go_sem]
  rfl
 ·rintro k e h ⟨rfl, e0, i, e4, e3, hi, hk⟩
  repeat (first | rw [ko] | rw [kr] | simp -dsimp -implicitDefEqProofs only [go_sem, sQ1, e0, e3, e4])
  refine AN (fun h2 => ?_) (fun h2 => ?_)
  ·repeat (first | rw [ko] | rw [kr] | simp -dsimp -implicitDefEqProofs only [go_sem, sQ1])
   have hw : IntKind.i64.wrap (i + 1) = i + 1 := by rw [wrap_i64] <;> omega
   have hp : (2 : Int) ^ (i + 1).toNat = 2 * 2 ^ i.toNat := by
    rw [show (i + 1).toNat = i.toNat + 1 by omega, Int.pow_succ]; omega
   have hb := Iq (i + 1).toNat (by omega)
   have hw2 : IntKind.i64.wrap (2 * 2 ^ i.toNat) = 2 ^ (i + 1).toNat := by rw [← hp, wrap_i64] <;> omega
   refine ⟨k - 1, by omega, rfl, ?_, i + 1, ?_, ?_, by omega, by omega⟩
   ·simp -dsimp -implicitDefEqProofs only [go_sem, sQ1]
   ·simp -dsimp -implicitDefEqProofs only [go_sem, hw]
   ·simp -dsimp -implicitDefEqProofs only [go_sem, sQ1, hw2]
  ·repeat (first | rw [ko] | rw [kr] | simp -dsimp -implicitDefEqProofs only [go_sem, ↓reduceIte])
   have : i = n := by omega
   subst this
   exact ⟨rfl, rfl⟩
theorem HP {r k : Int} (hr : 0 ≤ r ∧ r ≤ 176) : IntKind.i64.wrap (IntKind.i64.wrap (256 - r) + IntKind.i64.wrap ((IntKind.i64.wrap (r * r)).tdiv 512)) = 256 - r + r * r / 512 ∧ 0 ≤ 256 - r + r * r / 512 ∧ 256 - r + r * r / 512 ≤ 400 := by
 have h1 : 0 ≤ r * r := Int.mul_nonneg hr.1 hr.1
 have h2 : r * r ≤ 176 * 176 := Int.mul_le_mul hr.2 hr.2 hr.1 (by decide)
 rw [wrap_i64 (x := r * r) (by omega) (by omega), Int.tdiv_eq_ediv_of_nonneg h1, wrap_i64 (x := 256 - r) (by omega) (by omega)]
 generalize r * r = q at *
 rw [wrap_i64 (x := q / 512) (by omega) (by omega), wrap_i64 (by omega) (by omega)]
 omega
theorem N4 {x k : Int} (hk : 0 ≤ k ∧ k ≤ 60) : shrI .i64 x k = x / 2 ^ k.toNat := by
 unfold shrI
 have : min k.toNat IntKind.i64.bits = k.toNat := by simp only [IntKind.bits]; omega
 rw [this, Int.fdiv_eq_ediv_of_nonneg _ (by have := Iq k.toNat (by omega); omega)]
theorem SA {x : Int} {h : Heap} : WC Tryz.prog W0 199 [.int .i64 x] h (fun v h' => v = .int .i64 (G1 x) ∧ h' = h) := by
 refine start (P := Tryz.prog) [[0], [0], [], [0], [], [0], [3, 4]] (by kernel_rfl) Tryz.func199 rfl (by decide) (by decide +kernel) (rs := [.tmp 2]) rfl rfl (Nat.le_of_ble_eq_true rfl) ?_
 repeat (first | rw [ko] | rw [kr] | simp -dsimp -implicitDefEqProofs only [go_sem])
 refine AN (fun h1 => ?_) (fun h1 => ?_)
 ·repeat (first | rw [ko] | rw [kr] | simp -dsimp -implicitDefEqProofs only [go_sem])
  exact ⟨by rw [G1, if_neg (by omega), if_pos h1], rfl⟩
 ·repeat (first | rw [ko] | rw [kr] | simp -dsimp -implicitDefEqProofs only [go_sem, sQ1])
  refine AN (fun h2 => ?_) (fun h2 => ?_)
  ·repeat (first | rw [ko] | rw [kr] | simp -dsimp -implicitDefEqProofs only [go_sem])
   exact ⟨by rw [G1, if_pos h2], rfl⟩
  ·have hneg : IntKind.i64.wrap (0 - x) = -x := by rw [wrap_i64] <;> omega
   have hq : (-x).tdiv 177 = (-x) / 177 := Int.tdiv_eq_ediv_of_nonneg (by omega)
   have hr : (-x).tmod 177 = (-x) % 177 := Int.tmod_eq_emod_of_nonneg (by omega)
   have hq2 : IntKind.i64.wrap ((-x) / 177) = (-x) / 177 := by rw [wrap_i64] <;> omega
   have hk0 : 0 ≤ (-x) / 177 := by omega
   have hr0 : 0 ≤ (-x) % 177 ∧ (-x) % 177 ≤ 176 := by omega
   repeat (first | rw [ko] | rw [kr] | simp -dsimp -implicitDefEqProofs only [go_sem, sQ1, sQ7, hneg, hq, hr, hq2, hk0])
   refine ⟨?_, rfl⟩
   rw [G1, if_neg h2, if_neg h1]
   rw [(HP (k := 0) hr0).1, N4 (by omega)]
theorem Lp {x : Int} {h : Heap} : WC Tryz.prog W0 231 [.int .i64 x] h (fun v h' => v = .int .i64 (G1 x) ∧ h' = h) := by
 refine start (P := Tryz.prog) [[0], [0], [], [0], [], [0], [0, 3], [3, 4]] (by kernel_rfl) Tryz.func231 rfl (by decide) (by decide +kernel) (rs := [.tmp 2]) rfl rfl (Nat.le_of_ble_eq_true rfl) ?_
 repeat (first | rw [ko] | rw [kr] | simp -dsimp -implicitDefEqProofs only [go_sem])
 refine AN (fun h2 => ?_) (fun h2 => ?_)
 ·repeat (first | rw [ko] | rw [kr] | simp -dsimp -implicitDefEqProofs only [go_sem])
  exact ⟨by rw [G1, if_pos h2], rfl⟩
 ·repeat (first | rw [ko] | rw [kr] | simp -dsimp -implicitDefEqProofs only [go_sem, sQ1])
  refine AN (fun h1 => ?_) (fun h1 => ?_)
  ·repeat (first | rw [ko] | rw [kr] | simp -dsimp -implicitDefEqProofs only [go_sem])
   exact ⟨by rw [G1, if_neg (by omega), if_pos h1], rfl⟩
  ·have hneg : IntKind.i64.wrap (0 - x) = -x := by rw [wrap_i64] <;> omega
   have hq : (-x).tdiv 177 = (-x) / 177 := Int.tdiv_eq_ediv_of_nonneg (by omega)
   have hr : (-x).tmod 177 = (-x) % 177 := Int.tmod_eq_emod_of_nonneg (by omega)
   have hq2 : IntKind.i64.wrap ((-x) / 177) = (-x) / 177 := by rw [wrap_i64] <;> omega
   have hk0 : 0 ≤ (-x) / 177 := by omega
   have hr0 : 0 ≤ (-x) % 177 ∧ (-x) % 177 ≤ 176 := by omega
   repeat (first | rw [ko] | rw [kr] | simp -dsimp -implicitDefEqProofs only [go_sem, sQ1, sQ7, hneg, hq, hr, hq2])
   refine AA (U6 (by omega)) ?_
   rintro _ h' ⟨rfl, rfl⟩
   have hpb := Iq ((-x) / 177).toNat (by omega)
   have hp0 : ((2 : Int) ^ ((-x) / 177).toNat == 0) = false := by simp only [beq_eq_false_iff_ne]; omega
   repeat (first | rw [ko] | rw [kr] | simp -dsimp -implicitDefEqProofs only [go_sem, hp0])
   refine ⟨?_, rfl⟩
   obtain ⟨e1, e2, e3⟩ := HP (k := 0) hr0
   rw [e1, G1, if_neg h2, if_neg h1, Int.tdiv_eq_ediv_of_nonneg e2]
   generalize (2 : Int) ^ ((-x) / 177).toNat = p at *
   generalize 256 - -x % 177 + -x % 177 * (-x % 177) / 512 = t at *
   have d1 : 0 ≤ t / p := Int.ediv_nonneg e2 (by omega)
   have d2 : t / p ≤ t := Int.ediv_le_self _ e2
   rw [wrap_i64 (by omega) (by omega)]
end Go.Ai
end
section
set_option maxRecDepth 20000
namespace Go.Ai
open Go.Proofs
variable {W0 : World}
theorem Ju {f : FuncId} {p : Int → Bool} {caps : List Value} {a : Option Addr} {n c : Nat} {ss : List Int} {h : Heap} (r : JW h a n (ss.map (.int .i64))) (hn0 : n ≤ 9223372036854775807)
  (hf : ∀ s, WC Tryz.prog W0 f ([.int .i64 s] ++ caps) h (fun v h' => v = .bool (p s) ∧ h' = h)) :
  WC Tryz.prog W0 214 [.slice a n c, .func (.func f) #[] caps.toArray] h (fun v h' => (∃ k : Int, v = .int .i64 k ∧ decide (0 ≤ k) = ss.any p) ∧ h' = h) := by
 have hlen := r.1
 simp at hlen
 refine start (P := Tryz.prog) [[0, 1], [0, 1], [0, 1, 7, 8], [0, 1, 7, 8], [0, 1, 5, 7, 8], [5], [0, 1, 7, 8], []] (by kernel_rfl) Tryz.func214 rfl (by decide) (by decide +kernel) (rs := [.tmp 4]) rfl rfl (Nat.le_of_ble_eq_true rfl) ?_
 repeat (first | rw [ko] | rw [kr] | simp -dsimp -implicitDefEqProofs only [go_sem])
 refine DZ (fun k e h' => h' = h ∧ look e 0 .mk = .slice a n c ∧ look e 1 .mk = .func (.func f) #[] caps.toArray ∧ look e 7 .mk = .int .i64 n ∧ ∃ i : Int, look e 8 .mk = .int .i64 i ∧ 0 ≤ i ∧ (k : Int) + i = n ∧ ∀ j : Nat, (j : Int) < i → ∀ hj : j < ss.length, p ss[j] = false) n ?_ ?_
 ·refine ⟨rfl, ?_, ?_, ?_, 0, ?_, by omega, by omega, fun j hj => by omega⟩ <;> simp -dsimp -implicitDefEqProofs only [go_sem, sQ1]
 ·rintro k e h ⟨rfl, e0, e1, e7, i, e8, hi, hk, hpre⟩
  repeat (first | rw [ko] | rw [kr] | simp -dsimp -implicitDefEqProofs only [go_sem, e0, e1, e7, e8])
  refine AN (fun h2 => ?_) (fun h2 => ?_)
  ·obtain ⟨b, off, w, z, cs, ha, hb, hlt, hy⟩ := r.2 i.toNat (by omega)
   subst ha
   have hl1 : i.toNat < ss.length := by omega
   rw [List.getElem?_map, List.getElem?_eq_getElem hl1, Option.map_some] at hy
   have hi2 : 0 ≤ i ∧ i < (n : Int) := ⟨hi, h2⟩
   repeat (first | rw [ko] | rw [kr] | simp -dsimp -implicitDefEqProofs only [go_sem, sQ1, and_self, Nat.mul_one, hi2, hb, hy])
   refine AA (hf _) ?_
   rintro _ h' ⟨rfl, rfl⟩
   repeat (first | rw [ko] | rw [kr] | simp -dsimp -implicitDefEqProofs only [go_sem])
   refine EA (fun h3 => ?_) (fun h3 => ?_)
   ·repeat (first | rw [ko] | rw [kr] | simp -dsimp -implicitDefEqProofs only [go_sem, sQ1])
    refine ⟨⟨_, rfl, ?_⟩, rfl⟩
    have : ss.any p = true := List.any_eq_true.2 ⟨_, List.getElem_mem hl1, h3⟩
    rw [this]; simpa using hi
   ·repeat (first | rw [ko] | rw [kr] | simp -dsimp -implicitDefEqProofs only [go_sem, sQ1])
    refine ⟨k - 1, by omega, rfl, ?_, ?_, ?_, i + 1, ?_, by omega, by omega, ?_⟩
    ·simp -dsimp -implicitDefEqProofs only [go_sem, sQ1]
    ·simp -dsimp -implicitDefEqProofs only [go_sem, sQ1]
    ·simp -dsimp -implicitDefEqProofs only [go_sem, sQ1]
    ·have hw : IntKind.i64.wrap (i + 1) = i + 1 := by rw [wrap_i64] <;> omega
     simp -dsimp -implicitDefEqProofs only [go_sem, hw]
    ·intro j hj hjl
     by_cases hji : j = i.toNat
     ·subst hji; exact h3
     ·exact hpre j (by omega) hjl
  ·repeat (first | rw [ko] | rw [kr] | simp -dsimp -implicitDefEqProofs only [go_sem, ↓reduceIte])
   refine ⟨⟨_, rfl, ?_⟩, rfl⟩
   have : ss.any p = false := by
    rw [List.any_eq_false]
    intro x hx
    obtain ⟨j, hj, rfl⟩ := List.getElem_of_mem hx
    simp [hpre j (by omega) hj]
   rw [this]; rfl
theorem GR {f : FuncId} {p : Int → Bool} {caps : List Value} {a : Option Addr} {n c : Nat} {ss : List Int} {h : Heap} (r : JW h a n (ss.map (.int .i64))) (hn0 : n ≤ 9223372036854775807)
  (hf : ∀ s, WC Tryz.prog W0 f ([.int .i64 s] ++ caps) h (fun v h' => v = .bool (p s) ∧ h' = h)) :
  WC Tryz.prog W0 173 [.slice a n c, .func (.func f) #[] caps.toArray] h (fun v h' => v = .bool (ss.any p) ∧ h' = h) := by
 refine start (P := Tryz.prog) [[0, 1], [0, 1]] (by kernel_rfl) Tryz.func173 rfl (by decide) (by decide +kernel) (rs := [.tmp 4]) rfl rfl (Nat.le_of_ble_eq_true rfl) ?_
 repeat (first | rw [ko] | rw [kr] | simp -dsimp -implicitDefEqProofs only [go_sem])
 refine AA (Ju r hn0 hf) ?_
 rintro _ h' ⟨⟨k, rfl, hk⟩, rfl⟩
 repeat (first | rw [ko] | rw [kr] | simp -dsimp -implicitDefEqProofs only [go_sem, hk])
 exact ⟨rfl, rfl⟩
theorem Jx {b1 b2 : Nat} {z1 z2 : Nat} {w1 w2 : Bool} {x y : Int} {h : Heap} (h1 : hg h b1 .mk = some ⟨w1, z1, [.int .i64 x]⟩) (h2 : hg h b2 .mk = some ⟨w2, z2, [.int .i64 y]⟩) (s : Int) :
  WC Tryz.prog W0 174 ([.int .i64 s] ++ [.pointer (some ⟨b1, 0, none⟩), .pointer (some ⟨b2, 0, none⟩)]) h (fun v h' => v = .bool (!inI s x y) ∧ h' = h) := by
 simp only [List.cons_append, List.nil_append]
 refine start (P := Tryz.prog) [[0, 1, 2], [0, 1, 2]] (by kernel_rfl) Tryz.func174 rfl (by decide) (by decide +kernel) (rs := [.tmp 4]) rfl rfl (Nat.le_of_ble_eq_true rfl) ?_
 repeat (first | rw [ko] | rw [kr] | simp -dsimp -implicitDefEqProofs only [go_sem, h1, h2])
 refine AA BQ ?_
 rintro _ h' ⟨rfl, rfl⟩
 repeat (first | rw [ko] | rw [kr] | simp -dsimp -implicitDefEqProofs only [go_sem])
 exact ⟨rfl, rfl⟩
theorem BN {a : Option Addr} {n c : Nat} {ss : List Int} {x y : Int} {h : Heap} (r : JW h a n (ss.map (.int .i64))) (hn0 : n ≤ 9223372036854775807) :
  WC Tryz.prog W0 123 [.slice a n c, .int .i64 x, .int .i64 y] h (fun v h' => v = .bool (ss.all fun s => inI s x y) ∧ h.le h') := by
 have Av : ∀ x : Nat, (x == x) = true := by simp
 have hle : ∀ k k', h.le ((h.push k).push k') := fun k k' => le_push (le_push (Heap.le_refl h))
 refine start (P := Tryz.prog) [[0, 1, 2], [0, 4, 5]] (by kernel_rfl) Tryz.func123 rfl (by decide) (by decide +kernel) (rs := [.tmp 6]) rfl rfl (Nat.le_of_ble_eq_true rfl) ?_
 repeat (first | rw [ko] | rw [kr] | simp -dsimp -implicitDefEqProofs only [go_sem, sQ1, Av])
 refine AA (GR (r.mono (hle _ _)) hn0 (Jx (x := x) (y := y) (z1 := 1) (z2 := 1) (w1 := true) (w2 := true) ?_ ?_)) ?_
 ·simp -dsimp -implicitDefEqProofs only [go_sem, Av]
 ·simp -dsimp -implicitDefEqProofs only [go_sem, Av]
 rintro _ h' ⟨rfl, rfl⟩
 repeat (first | rw [ko] | rw [kr] | simp -dsimp -implicitDefEqProofs only [go_sem])
 exact ⟨by rw [List.all_eq_not_any_not], hle _ _⟩
end Go.Ai
end
