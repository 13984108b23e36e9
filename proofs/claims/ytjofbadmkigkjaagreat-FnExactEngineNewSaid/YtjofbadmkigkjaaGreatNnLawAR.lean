/- Own lemmas that the theorem of this claim needs: the abstract machine and walks of functions. -/
import Derived.Test.YtjofbadmkigkjaaGreatNnLawAA
import Derived.Test.YtjofbadmkigkjaaGreatNnLawAB
import Derived.Test.YtjofbadmkigkjaaGreatNnLawAC
import Derived.Test.YtjofbadmkigkjaaGreatNnLawAD
import Derived.Test.YtjofbadmkigkjaaGreatNnLawAE
import Derived.Test.YtjofbadmkigkjaaGreatNnLawAF
import Derived.Test.YtjofbadmkigkjaaGreatNnLawAG
import Derived.Test.YtjofbadmkigkjaaGreatNnLawAH
import Derived.Test.YtjofbadmkigkjaaGreatNnLawAI
import Derived.Test.YtjofbadmkigkjaaGreatNnLawAJ
import Derived.Test.YtjofbadmkigkjaaGreatNnLawAK
import Derived.Test.YtjofbadmkigkjaaGreatNnLawAL
import Derived.Test.YtjofbadmkigkjaaGreatNnLawAM
import Derived.Test.YtjofbadmkigkjaaGreatNnLawAN
import Derived.Test.YtjofbadmkigkjaaGreatNnLawAO
import Derived.Test.YtjofbadmkigkjaaGreatNnLawAP
import Derived.Test.YtjofbadmkigkjaaGreatNnLawAQ
open Nat renaming reduceBEq → rq1, reduceAdd → rq2, reduceLeDiff → rq3, reduceMul → rq4
open Int renaming reduceLE → rq5, reduceLT → rq6, reduceBEq → rq7
section
set_option linter.unusedSimpArgs false
set_option linter.unusedVariables false
set_option maxRecDepth 20000
namespace Go.Bi
open Go.Proofs
open Go.Ai (wrap_i64 wrap_u8 Heap)
variable {W0 : World} {P : Program}
set_option maxHeartbeats 8000000
theorem OT.israw {g : H2} {bs : List Nat} {x : X} {t : T} (o : OT g bs x t) : ∃ v, x = .raw v := by cases o <;> exact ⟨_, rfl⟩
theorem OTs.israw {g : H2} : ∀ {bs : List Nat} {xs : List X} {ts : List T}, OTs g bs xs ts → ∀ x ∈ xs, ∃ v, x = .raw v
  | _, _, _, .nil, x, hx => by cases hx
  | _, _, _, .cons a b, x, hx => by
    rcases List.mem_cons.1 hx with rfl | hx
    · exact a.israw
    · exact b.israw x hx
mutual
theorem OT.rows {g : H2} : ∀ {bs : List Nat} {x : X} {t : T}, OT g bs x t → ∀ b ∈ bs, ∃ k, g.get b = some k ∧ ∀ y ∈ k.cs, ∃ v, y = X.raw v
  | _, _, _, .raw h, b, hb => by cases hb
  | _, _, _, .nil, b, hb => by cases hb
  | _, _, _, .row h1 h2 h3 h4 h5, b, hb => by
    rcases List.mem_cons.1 hb with rfl | hb
    · exact ⟨_, h1, h5.israw⟩
    · exact h5.rows b hb
theorem OTs.rows {g : H2} : ∀ {bs : List Nat} {xs : List X} {ts : List T}, OTs g bs xs ts → ∀ b ∈ bs, ∃ k, g.get b = some k ∧ ∀ y ∈ k.cs, ∃ v, y = X.raw v
  | _, _, _, .nil, b, hb => by cases hb
  | _, _, _, .cons h1 h2, b, hb => by
    rcases List.mem_append.1 hb with hb | hb
    · exact h1.rows b hb
    · exact h2.rows b hb
end
theorem WC2.lendTree {g : H2} {f : FuncId} {xs ys : List X} {R : X → H2 → List Nat → Prop} (hl : Lents g xs ys)
    (c : WC2 P W0 f ys g.bare fun x g' => g.bare.le g' ∧ ∃ bs, R x g' bs ∧ Bl (hn g .mk) (hn g' .mk) bs)
    (hfr : ∀ x g' g2 bs, R x g' bs → (∀ b ∈ bs, g2.get b = g'.get b) → R x g2 bs)
    (hrow : ∀ x g' bs, R x g' bs → ∀ b ∈ bs, ∃ k, g'.get b = some k ∧ ∀ y ∈ k.cs, ∃ v, y = X.raw v)
    (hok : ∀ x g' bs, R x g' bs → ∀ h g2, Ok h g2 x) :
    WC2 P W0 f xs g fun x g' => g.le g' ∧ ∃ bs, R x g' bs ∧ Bl (hn g .mk) (hn g' .mk) bs := by
  intro h s o
  rw [← hl.er]
  refine (c h s.bare (hl.ok s o)).mono ?_
  rintro v h' ⟨y, g', rfl, s', x', o', le, bs, r, bl⟩
  have hn1 : hn g .mk = h.n := s.n
  have hn2 : hn g' .mk = h'.n := s'.n
  have hbn : ∀ c, c < h.n → c ∉ bs := fun c hc hb => by have := (bl.2 c hb).1; omega
  let g2 : H2 := ⟨h'.n, fun b => if b ∈ bs then g'.get b else g.get b⟩
  have hx2 : Ext g h g2 h' := ⟨x'.n, fun c hc _ => x'.keep c hc rfl, fun c hc hg => by
    show (if c ∈ bs then g'.get c else g.get c) = none
    rw [if_neg (hbn c hc)]; exact hg⟩
  refine ⟨_, g2, rfl, ⟨rfl, fun c k hk => ?_⟩, hx2, hok _ _ _ r _ _, ⟨?_, fun c hc => ?_⟩, bs, hfr _ _ _ _ r fun b hb => ?_, bl.wide (Nat.le_refl _) (Nat.le_of_eq hn2)⟩
  · by_cases hb : c ∈ bs
    · have hk' : g'.get c = some k := by
        have : (if c ∈ bs then g'.get c else g.get c) = some k := hk
        rwa [if_pos hb] at this
      obtain ⟨k2, e2, hr⟩ := hrow _ _ _ r c hb
      rw [e2] at hk'
      cases hk'
      obtain ⟨q1, q2, q3⟩ := s'.row c _ e2
      exact ⟨q1, q2, fun x hx => by obtain ⟨v, rfl⟩ := hr x hx; exact .raw⟩
    · have hk' : g.get c = some k := by
        have : (if c ∈ bs then g'.get c else g.get c) = some k := hk
        rwa [if_neg hb] at this
      obtain ⟨q1, q2, q3⟩ := s.row c k hk'
      exact ⟨Nat.lt_of_lt_of_le q1 x'.n, by rw [x'.keep c q1 rfl]; exact q2, fun y hy => (q3 y hy).mono hx2⟩
  · have := x'.n
    show hn g .mk ≤ h'.n
    omega
  · show (if c ∈ bs then g'.get c else g.get c) = g.get c
    rw [if_neg (hbn c (by omega))]
  · show (if b ∈ bs then g'.get b else g.get b) = g'.get b
    rw [if_pos hb]
def RTup (E : List T) (v : Value) (x : X) (g : H2) (bs : List Nat) : Prop := ∃ ys, x = .tp [.st ys, .raw v] ∧ OTs g bs ys E
theorem lend_tup {g : H2} {f : FuncId} {xs ys : List X} {E : List T} {v : Value} (hl : Lents g xs ys)
    (c : WC2 P W0 f ys g.bare fun x g' => g.bare.le g' ∧ ∃ bs, RTup E v x g' bs ∧ Bl (hn g .mk) (hn g' .mk) bs) :
    WC2 P W0 f xs g fun x g' => g.le g' ∧ ∃ bs, RTup E v x g' bs ∧ Bl (hn g .mk) (hn g' .mk) bs := by
  refine WC2.lendTree hl c ?_ ?_ ?_
  · rintro x g' g2 bs ⟨ys, rfl, o⟩ hb
    exact ⟨ys, rfl, o.frame hb⟩
  · rintro x g' bs ⟨ys, rfl, o⟩
    exact o.rows
  · rintro x g' bs ⟨ys, rfl, o⟩ h g2
    refine .tp fun x hx => ?_
    simp only [List.mem_cons, List.not_mem_nil, or_false] at hx
    rcases hx with rfl | rfl
    · exact .st fun y hy => by obtain ⟨v, rfl⟩ := o.israw y hy; exact .raw
    · exact .raw
def newB (m : LModel) (p : Int) : Bool := modelB m && inI p 1 16
def newE (m : LModel) (p : Int) : LEngine := if newB m p = true then ⟨m, ⟨List.replicate p.toNat 0, List.replicate p.toNat []⟩, []⟩ else default
theorem rep_nils {n : Nat} : (Go.Ai.repL n [.slice none 0 0]).map X.raw = List.replicate n (X.raw (.slice none 0 0)) := by
  rw [Go.Ai.rep_one]; simp
theorem zeros_I2 {n : Nat} : (Go.Ai.repL n [.int .i64 0]).map X.raw = (List.replicate n (0 : Int)).map cI := by
  rw [Go.Ai.rep_one]; simp [cI]
theorem nil_pages {g : H2} : ∀ {n : Nat}, OTs g [] (List.replicate n (X.raw (.slice none 0 0))) (rCellSS (List.replicate n [])).flatten
  | 0 => .nil
  | n + 1 => by
    have h := nil_pages (g := g) (n := n)
    have := OTs.cons (bs := []) (bs' := []) (OT.nil (g := g) (z := 2)) h
    exact this
theorem zeroEngine {g : H2} : OTs g [] [.raw (.int .i64 0), .raw (.int .i64 0), .raw (.int .i64 0), .raw (.slice none 0 0), .raw (.slice none 0 0), .raw (.slice none 0 0), .raw (.slice none 0 0), .raw (.int .i64 0), .raw (.slice none 0 0), .raw (.slice none 0 0), .raw (.int .i64 0), .raw (.int .i64 0), .raw (.slice none 0 0), .raw (.slice none 0 0), .raw (.slice none 0 0), .raw (.slice none 0 0), .raw (.slice none 0 0)] (eEngine default) :=
  outEngine (c := default) OT.nil OT.nil OT.nil OT.nil OT.nil OT.nil OT.nil OT.nil OT.nil OT.nil OT.nil
theorem OT.pushN {g : H2} {bs : List Nat} {x : X} {t : T} {N M : Nat} {k : OB} (o : OT g bs x t) (bl : Bl N M bs) (hb : M ≤ hn g .mk) : OT (g.push k) bs x t := o.frame fun q hq => by
  have h1 : hg (g.push k) q .mk = hg g q .mk := by
    rw [hg_push, show (q == hn g .mk) = false by have := (bl.2 q hq).2; simp; omega]; rfl
  exact h1
theorem make_ints {G : H2} {b n : Nat} (h : hg G b .mk = some ⟨1, (Go.Ai.repL n [.int .i64 0]).map X.raw⟩) : OT G [b] (.raw (.slice (some ⟨b, 0, none⟩) n n)) (.l 1 (ints (List.replicate n 0))) := by
  rw [zeros_I2] at h
  have e : (List.replicate n (0 : Int)).map cI = ((List.replicate n (0 : Int)).map (Value.int .i64)).map .raw := by simp [cI]
  rw [e] at h
  have := OT.flat (N := 0) h (fun v hv => by obtain ⟨z, _, rfl⟩ := List.mem_map.1 hv; rfl)
  rw [← ints_T] at this
  simpa using this
theorem make_pages {G : H2} {b n : Nat} (h : hg G b .mk = some ⟨1, (Go.Ai.repL n [.slice none 0 0]).map X.raw⟩) : OT G [b] (.raw (.slice (some ⟨b, 0, none⟩) n n)) (.l 1 (rCellSS (List.replicate n []))) := by
  rw [rep_nils] at h
  exact OT.row h (by simp) (by simp [rCellSS]) (fun e he => by obtain ⟨x, _, rfl⟩ := List.mem_map.1 he; rfl) nil_pages
theorem Bl.two {N M N' M' x y : Nat} {l : List Nat} (b : Bl N M l) (hx : x < N ∨ M ≤ x) (hy : y < N ∨ M ≤ y) (hxy : x ≠ y) (h1 : N' ≤ N) (h2 : M ≤ M') (h3 : N' ≤ x ∧ x < M') (h4 : N' ≤ y ∧ y < M') : Bl N' M' (l ++ ([x] ++ ([y] ++ []))) := by
  refine ⟨List.nodup_append.2 ⟨b.1, by simp [hxy], fun u hu w hw e => ?_⟩, fun u hu => ?_⟩
  · have := b.2 u hu
    simp only [List.cons_append, List.nil_append, List.mem_cons, List.not_mem_nil, or_false] at hw
    rcases hw with rfl | rfl <;> omega
  · rcases List.mem_append.1 hu with hu | hu
    · have := b.2 u hu; omega
    · simp only [List.cons_append, List.nil_append, List.mem_cons, List.not_mem_nil, or_false] at hu
      rcases hu with rfl | rfl
      · exact h3
      · exact h4
theorem new_no {m : LModel} {p : Int} (h : newB m p = false) : newE m p = default := by unfold newE; rw [h]; rfl
theorem implNew_ok {F : Nat → Adr} {m : LModel} {p : Int} {g : H2} (hs : szModel m ≤ 1048576) : WC2 Tryz.prog W0 13 [.st (xModel F m), .raw (.int .i64 p)] g fun x g' => g.le g' ∧ ∃ bs, RTup (eEngine (newE m p)) (.bool (newB m p)) x g' bs ∧ Bl (hn g .mk) (hn g' .mk) bs := by
  refine start (P := Tryz.prog) [[0, 1], [1, 2, 4], [4], [1, 2, 4]] (by kernel_rfl) Tryz.func13 rfl (by decide) (by decide +kernel) (rs := [.cell 4 41, .tmp 5]) rfl rfl (Nat.le_of_ble_eq_true rfl) ?_
  intro wf
  have ne1 : (hn g .mk == hn g .mk + 1) = false := by simp
  have ne2 : (hn g .mk + 1 == hn g .mk) = false := by simp
  repeat (first | rw [kz_o] | rw [kz_r0] | simp -dsimp -implicitDefEqProofs only [go_sem, rq1, rq2, rq3, rq4, rq5, rq6, rq7, hoo, ne1, ne2])
  refine pw_intro (implModel_ok (F := F) (m := m) (smallMod_of hs)) ?_
  rintro _ n1 hn1 rfl
  simp only [hn_push] at hn1
  first | (rw [kz_r]; refine ⟨by simp -dsimp -implicitDefEqProofs only [go_sem, rq1, rq2, rq3, rq4, rq5, rq6, rq7, hoo, ne1, ne2], ?_⟩) | skip
  cases h1 : modelB m
  · repeat (first | rw [kz_o] | rw [kz_r0] | simp -dsimp -implicitDefEqProofs only [go_sem, rq1, rq2, rq3, rq4, rq5, rq6, rq7, hoo, ne1, ne2])
    have hb : newB m p = false := by rw [newB, h1]; rfl
    rw [new_no hb, hb]
    exact ⟨by repeat (first | exact H2.le.refl _ | assumption | apply le_push | refine le_set ?_ (by omega) | refine le_up ?_ (by first | assumption | (simp only [hn_up, hn_push] at *; omega))), [], ⟨_, rfl, zeroEngine⟩, Bl.nil⟩
  repeat (first | rw [kz_o] | rw [kz_r0] | simp -dsimp -implicitDefEqProofs only [go_sem, rq1, rq2, rq3, rq4, rq5, rq6, rq7, hoo, ne1, ne2])
  refine wz_intro in_ok ?_
  rintro _ _ ⟨rfl, rfl⟩
  first | (rw [kz_r]; refine ⟨by simp -dsimp -implicitDefEqProofs only [go_sem, rq1, rq2, rq3, rq4, rq5, rq6, rq7, hoo, ne1, ne2], ?_⟩) | skip
  cases h2 : inI p 1 16
  · repeat (first | rw [kz_o] | rw [kz_r0] | simp -dsimp -implicitDefEqProofs only [go_sem, rq1, rq2, rq3, rq4, rq5, rq6, rq7, hoo, ne1, ne2])
    have hb : newB m p = false := by rw [newB, h1, h2]; rfl
    rw [new_no hb, hb]
    exact ⟨by repeat (first | exact H2.le.refl _ | assumption | apply le_push | refine le_set ?_ (by omega) | refine le_up ?_ (by first | assumption | (simp only [hn_up, hn_push] at *; omega))), [], ⟨_, rfl, zeroEngine⟩, Bl.nil⟩
  have hp := inI_tt h2
  have hb : newB m p = true := by rw [newB, h1, h2]; rfl
  have hE : newE m p = ⟨m, ⟨List.replicate p.toNat 0, List.replicate p.toNat []⟩, []⟩ := by unfold newE; rw [if_pos hb]
  rw [hE, hb]
  repeat (first | rw [kz_o] | rw [kz_r0] | simp -dsimp -implicitDefEqProofs only [go_sem, rq1, rq2, rq3, rq4, rq5, rq6, rq7, hoo, ne1, ne2])
  refine dt_intro (.op 0 [] (.op 2 [] (.op 4 [] (.alt (.op 1 [] (.alt (.op 3 [0] (.op 5 [0] (.op 6 [] (.op 7 [] (.op 8 [] (.op 9 [] .nil)))))) (.op 5 [0] (.op 3 [0] (.op 6 [] (.op 7 [] (.op 8 [] (.op 9 [] .nil)))))))) (.alt (.op 3 [0] (.alt (.op 1 [] (.op 5 [0] (.op 6 [] (.op 7 [] (.op 8 [] (.op 9 [] .nil)))))) (.op 5 [0] (.op 6 [] (.op 1 [] (.op 7 [] (.op 8 [] (.op 9 [] .nil)))))))) (.op 5 [0] (.alt (.op 1 [] (.op 3 [0] (.op 6 [] (.op 7 [] (.op 8 [] (.op 9 [] .nil)))))) (.op 3 [0] (.op 6 [] (.op 1 [] (.op 7 [] (.op 8 [] (.op 9 [] .nil))))))))))))) (by kernel_rfl) ?_
  repeat (first | rw [kz_o] | rw [kz_r0] | simp -dsimp -implicitDefEqProofs only [go_sem, rq1, rq2, rq3, rq4, rq5, rq6, rq7, hoo, ne1, ne2, hoo, hoo])
  have nz2 : ((hn g .mk) == (n1)) = false := by first | (simp; done) | (simp; omega)
  have nz3 : ((n1) == (hn g .mk)) = false := by first | (simp; done) | (simp; omega)
  have nz4 : ((hn g .mk + 1) == (n1)) = false := by first | (simp; done) | (simp; omega)
  have nz5 : ((n1) == (hn g .mk + 1)) = false := by first | (simp; done) | (simp; omega)
  rw [run_alt]
  refine ⟨?_, ?_⟩
  · repeat (first | rw [kz_o] | rw [kz_r0] | simp -dsimp -implicitDefEqProofs only [go_sem, rq1, rq2, rq3, rq4, rq5, rq6, rq7, hoo, ne1, ne2, nz2, nz3, nz4, nz5, hoo, hoo])
    refine wz_intro (cloneModel_new (F := F) (c := m) hs) ?_
    rintro _ g2 ⟨l2, ys2, b2, rfl, o2, bl2⟩
    have n2 := l2.1
    try simp only [hn_push, hn_up] at n2 bl2
    have r0 := l2.2 (hn g .mk) (by first | omega | (simp only [hn_push, hn_set, hn_up]; omega) | (simp only [hn_push, hn_set, hn_up] at *; omega))
    have r1 := l2.2 (hn g .mk + 1) (by first | omega | (simp only [hn_push, hn_set, hn_up]; omega) | (simp only [hn_push, hn_set, hn_up] at *; omega))
    simp -dsimp -implicitDefEqProofs only [go_sem, rq1, rq2, rq3, rq4, rq5, rq6, rq7, hoo, ne1, ne2, nz2, nz3, nz4, nz5, hoo, hoo] at r0 r1
    obtain ⟨b3, s3, b4, s4, b5, s5, b6, s6, b8, s8, b9, s9, b12, s12, b13, s13, rfl, rfl, o3, o4, o5, o6, o8, o9, o12, o13⟩ := invModel o2
    have c3 := OT.cell o3
    have c4 := OT.cell o4
    have c5 := OT.cell o5
    have c6 := OT.cell o6
    have c8 := OT.cell o8
    have c9 := OT.cell o9
    have c12 := OT.cell o12
    have c13 := OT.cell o13
    have bl3 := bl2.split.1
    have bl4 := bl2.split.2.1.split.1
    have bl5 := bl2.split.2.1.split.2.1.split.1
    have bl6 := bl2.split.2.1.split.2.1.split.2.1.split.1
    have bl8 := bl2.split.2.1.split.2.1.split.2.1.split.2.1.split.1
    have bl9 := bl2.split.2.1.split.2.1.split.2.1.split.2.1.split.2.1.split.1
    have bl12 := bl2.split.2.1.split.2.1.split.2.1.split.2.1.split.2.1.split.2.1.split.1
    have bl13 := bl2.split.2.1.split.2.1.split.2.1.split.2.1.split.2.1.split.2.1.split.2.1
    have nz6 : ((hn g .mk) == hn g2 .mk) = false := by first | (simp; done) | (simp; omega)
    have nz7 : ((hn g .mk + 1) == hn g2 .mk) = false := by first | (simp; done) | (simp; omega)
    first | (rw [kz_r]; refine ⟨by simp -dsimp -implicitDefEqProofs only [go_sem, rq1, rq2, rq3, rq4, rq5, rq6, rq7, hoo, ne1, ne2, nz2, nz3, nz4, nz5, nz6, nz7, r0, r1, c3, c4, c5, c6, c8, c9, c12, c13], ?_⟩) | skip
    repeat (first | rw [kz_o] | rw [kz_r0] | simp -dsimp -implicitDefEqProofs only [go_sem, rq1, rq2, rq3, rq4, rq5, rq6, rq7, hoo, ne1, ne2, nz2, nz3, nz4, nz5, nz6, nz7, r0, r1, c3, c4, c5, c6, c8, c9, c12, c13])
    rw [run_alt]
    refine ⟨?_, ?_⟩
    · repeat (first | rw [kz_o] | rw [kz_r0] | simp -dsimp -implicitDefEqProofs only [go_sem, rq1, rq2, rq3, rq4, rq5, rq6, rq7, hoo, ne1, ne2, nz2, nz3, nz4, nz5, nz6, nz7, r0, r1, c3, c4, c5, c6, c8, c9, c12, c13])
      refine make_intro Ai.ty_el27 Ai.ty_zr3 (by decide) ⟨by omega, by have : Ai.most = 1099511627776 := rfl; omega⟩ ?_
      try simp only [hn_push, hn_up]
      have nz8 : ((hn g .mk) == (hn g2 .mk)) = false := by first | (simp; done) | (simp; omega)
      have nz9 : ((hn g2 .mk) == (hn g .mk)) = false := by first | (simp; done) | (simp; omega)
      have nz10 : ((hn g .mk + 1) == (hn g2 .mk)) = false := by first | (simp; done) | (simp; omega)
      have nz11 : ((hn g2 .mk) == (hn g .mk + 1)) = false := by first | (simp; done) | (simp; omega)
      first | (rw [kz_r]; refine ⟨by simp -dsimp -implicitDefEqProofs only [go_sem, rq1, rq2, rq3, rq4, rq5, rq6, rq7, hoo, ne1, ne2, nz2, nz3, nz4, nz5, nz6, nz7, nz8, nz9, nz10, nz11, r0, r1, c3, c4, c5, c6, c8, c9, c12, c13], ?_⟩) | skip
      repeat (first | rw [kz_o] | rw [kz_r0] | simp -dsimp -implicitDefEqProofs only [go_sem, rq1, rq2, rq3, rq4, rq5, rq6, rq7, hoo, ne1, ne2, nz2, nz3, nz4, nz5, nz6, nz7, nz8, nz9, nz10, nz11, r0, r1, c3, c4, c5, c6, c8, c9, c12, c13])
      refine make_intro Ai.ty_el36 Ai.ty_zr171 (by decide) ⟨by omega, by have : Ai.most = 1099511627776 := rfl; omega⟩ ?_
      try simp only [hn_push, hn_up]
      have nz12 : ((hn g .mk) == (hn g2 .mk + 1)) = false := by first | (simp; done) | (simp; omega)
      have nz13 : ((hn g2 .mk + 1) == (hn g .mk)) = false := by first | (simp; done) | (simp; omega)
      have nz14 : ((hn g .mk + 1) == (hn g2 .mk + 1)) = false := by first | (simp; done) | (simp; omega)
      have nz15 : ((hn g2 .mk + 1) == (hn g .mk + 1)) = false := by first | (simp; done) | (simp; omega)
      have nz16 : ((hn g2 .mk) == (hn g2 .mk + 1)) = false := by first | (simp; done) | (simp; omega)
      have nz17 : ((hn g2 .mk + 1) == (hn g2 .mk)) = false := by first | (simp; done) | (simp; omega)
      first | (rw [kz_r]; refine ⟨by simp -dsimp -implicitDefEqProofs only [go_sem, rq1, rq2, rq3, rq4, rq5, rq6, rq7, hoo, ne1, ne2, nz2, nz3, nz4, nz5, nz6, nz7, nz8, nz9, nz10, nz11, nz12, nz13, nz14, nz15, nz16, nz17, r0, r1, c3, c4, c5, c6, c8, c9, c12, c13], ?_⟩) | skip
      repeat (first | rw [kz_o] | rw [kz_r0] | simp -dsimp -implicitDefEqProofs only [go_sem, rq1, rq2, rq3, rq4, rq5, rq6, rq7, hoo, ne1, ne2, nz2, nz3, nz4, nz5, nz6, nz7, nz8, nz9, nz10, nz11, nz12, nz13, nz14, nz15, nz16, nz17, r0, r1, c3, c4, c5, c6, c8, c9, c12, c13])
      have hb3 := bl2
      refine ⟨by repeat (first | exact H2.le.refl _ | assumption | exact l2 | apply le_push | refine le_set ?_ (by omega) | refine le_up ?_ (by first | omega | (simp only [hn_push, hn_set, hn_up]; omega) | (simp only [hn_push, hn_set, hn_up] at *; omega)) | refine H2.le.trans ?_ l2), _, ⟨_, rfl, outEngine (c := ⟨m, ⟨List.replicate p.toNat 0, List.replicate p.toNat []⟩, []⟩)
        (by repeat (first | exact o3 | refine OT.setN ?_ bl3 (by omega) | refine OT.pushN ?_ bl3 (by first | omega | (simp only [hn_push, hn_set, hn_up]; omega) | (simp only [hn_push, hn_set, hn_up] at *; omega))))
        (by repeat (first | exact o4 | refine OT.setN ?_ bl4 (by omega) | refine OT.pushN ?_ bl4 (by first | omega | (simp only [hn_push, hn_set, hn_up]; omega) | (simp only [hn_push, hn_set, hn_up] at *; omega))))
        (by repeat (first | exact o5 | refine OT.setN ?_ bl5 (by omega) | refine OT.pushN ?_ bl5 (by first | omega | (simp only [hn_push, hn_set, hn_up]; omega) | (simp only [hn_push, hn_set, hn_up] at *; omega))))
        (by repeat (first | exact o6 | refine OT.setN ?_ bl6 (by omega) | refine OT.pushN ?_ bl6 (by first | omega | (simp only [hn_push, hn_set, hn_up]; omega) | (simp only [hn_push, hn_set, hn_up] at *; omega))))
        (by repeat (first | exact o8 | refine OT.setN ?_ bl8 (by omega) | refine OT.pushN ?_ bl8 (by first | omega | (simp only [hn_push, hn_set, hn_up]; omega) | (simp only [hn_push, hn_set, hn_up] at *; omega))))
        (by repeat (first | exact o9 | refine OT.setN ?_ bl9 (by omega) | refine OT.pushN ?_ bl9 (by first | omega | (simp only [hn_push, hn_set, hn_up]; omega) | (simp only [hn_push, hn_set, hn_up] at *; omega))))
        (by repeat (first | exact o12 | refine OT.setN ?_ bl12 (by omega) | refine OT.pushN ?_ bl12 (by first | omega | (simp only [hn_push, hn_set, hn_up]; omega) | (simp only [hn_push, hn_set, hn_up] at *; omega))))
        (by repeat (first | exact o13 | refine OT.setN ?_ bl13 (by omega) | refine OT.pushN ?_ bl13 (by first | omega | (simp only [hn_push, hn_set, hn_up]; omega) | (simp only [hn_push, hn_set, hn_up] at *; omega))))
        (make_ints (b := hn g2 .mk) (by simp -dsimp -implicitDefEqProofs only [go_sem, rq1, rq2, rq3, rq4, rq5, rq6, rq7, hoo, ne1, ne2, nz2, nz3, nz4, nz5, nz6, nz7, nz8, nz9, nz10, nz11, nz12, nz13, nz14, nz15, nz16, nz17, r0, r1, c3, c4, c5, c6, c8, c9, c12, c13]))
        (make_pages (b := hn g2 .mk + 1) (by simp -dsimp -implicitDefEqProofs only [go_sem, rq1, rq2, rq3, rq4, rq5, rq6, rq7, hoo, ne1, ne2, nz2, nz3, nz4, nz5, nz6, nz7, nz8, nz9, nz10, nz11, nz12, nz13, nz14, nz15, nz16, nz17, r0, r1, c3, c4, c5, c6, c8, c9, c12, c13]))
        OT.nil⟩, ?_⟩
      simp only [hn_push, hn_set]
      have hA := Bl.two (x := hn g2 .mk) (y := hn g2 .mk + 1) bl2 (by omega) (by omega) (by omega) (N' := hn g .mk) (M' := hn g2 .mk + 1 + 1) (by omega) (by omega) (by omega) (by omega)
      simpa only [List.append_assoc, List.cons_append, List.nil_append] using hA
    repeat (first | rw [kz_o] | rw [kz_r0] | simp -dsimp -implicitDefEqProofs only [go_sem, rq1, rq2, rq3, rq4, rq5, rq6, rq7, hoo, ne1, ne2, nz2, nz3, nz4, nz5, nz6, nz7, r0, r1, c3, c4, c5, c6, c8, c9, c12, c13])
    refine make_intro Ai.ty_el36 Ai.ty_zr171 (by decide) ⟨by omega, by have : Ai.most = 1099511627776 := rfl; omega⟩ ?_
    try simp only [hn_push, hn_up]
    have nz8 : ((hn g .mk) == (hn g2 .mk)) = false := by first | (simp; done) | (simp; omega)
    have nz9 : ((hn g2 .mk) == (hn g .mk)) = false := by first | (simp; done) | (simp; omega)
    have nz10 : ((hn g .mk + 1) == (hn g2 .mk)) = false := by first | (simp; done) | (simp; omega)
    have nz11 : ((hn g2 .mk) == (hn g .mk + 1)) = false := by first | (simp; done) | (simp; omega)
    first | (rw [kz_r]; refine ⟨by simp -dsimp -implicitDefEqProofs only [go_sem, rq1, rq2, rq3, rq4, rq5, rq6, rq7, hoo, ne1, ne2, nz2, nz3, nz4, nz5, nz6, nz7, nz8, nz9, nz10, nz11, r0, r1, c3, c4, c5, c6, c8, c9, c12, c13], ?_⟩) | skip
    repeat (first | rw [kz_o] | rw [kz_r0] | simp -dsimp -implicitDefEqProofs only [go_sem, rq1, rq2, rq3, rq4, rq5, rq6, rq7, hoo, ne1, ne2, nz2, nz3, nz4, nz5, nz6, nz7, nz8, nz9, nz10, nz11, r0, r1, c3, c4, c5, c6, c8, c9, c12, c13])
    refine make_intro Ai.ty_el27 Ai.ty_zr3 (by decide) ⟨by omega, by have : Ai.most = 1099511627776 := rfl; omega⟩ ?_
    try simp only [hn_push, hn_up]
    have nz12 : ((hn g .mk) == (hn g2 .mk + 1)) = false := by first | (simp; done) | (simp; omega)
    have nz13 : ((hn g2 .mk + 1) == (hn g .mk)) = false := by first | (simp; done) | (simp; omega)
    have nz14 : ((hn g .mk + 1) == (hn g2 .mk + 1)) = false := by first | (simp; done) | (simp; omega)
    have nz15 : ((hn g2 .mk + 1) == (hn g .mk + 1)) = false := by first | (simp; done) | (simp; omega)
    have nz16 : ((hn g2 .mk) == (hn g2 .mk + 1)) = false := by first | (simp; done) | (simp; omega)
    have nz17 : ((hn g2 .mk + 1) == (hn g2 .mk)) = false := by first | (simp; done) | (simp; omega)
    first | (rw [kz_r]; refine ⟨by simp -dsimp -implicitDefEqProofs only [go_sem, rq1, rq2, rq3, rq4, rq5, rq6, rq7, hoo, ne1, ne2, nz2, nz3, nz4, nz5, nz6, nz7, nz8, nz9, nz10, nz11, nz12, nz13, nz14, nz15, nz16, nz17, r0, r1, c3, c4, c5, c6, c8, c9, c12, c13], ?_⟩) | skip
    repeat (first | rw [kz_o] | rw [kz_r0] | simp -dsimp -implicitDefEqProofs only [go_sem, rq1, rq2, rq3, rq4, rq5, rq6, rq7, hoo, ne1, ne2, nz2, nz3, nz4, nz5, nz6, nz7, nz8, nz9, nz10, nz11, nz12, nz13, nz14, nz15, nz16, nz17, r0, r1, c3, c4, c5, c6, c8, c9, c12, c13])
    have hb3 := bl2
    refine ⟨by repeat (first | exact H2.le.refl _ | assumption | exact l2 | apply le_push | refine le_set ?_ (by omega) | refine le_up ?_ (by first | omega | (simp only [hn_push, hn_set, hn_up]; omega) | (simp only [hn_push, hn_set, hn_up] at *; omega)) | refine H2.le.trans ?_ l2), _, ⟨_, rfl, outEngine (c := ⟨m, ⟨List.replicate p.toNat 0, List.replicate p.toNat []⟩, []⟩)
      (by repeat (first | exact o3 | refine OT.setN ?_ bl3 (by omega) | refine OT.pushN ?_ bl3 (by first | omega | (simp only [hn_push, hn_set, hn_up]; omega) | (simp only [hn_push, hn_set, hn_up] at *; omega))))
      (by repeat (first | exact o4 | refine OT.setN ?_ bl4 (by omega) | refine OT.pushN ?_ bl4 (by first | omega | (simp only [hn_push, hn_set, hn_up]; omega) | (simp only [hn_push, hn_set, hn_up] at *; omega))))
      (by repeat (first | exact o5 | refine OT.setN ?_ bl5 (by omega) | refine OT.pushN ?_ bl5 (by first | omega | (simp only [hn_push, hn_set, hn_up]; omega) | (simp only [hn_push, hn_set, hn_up] at *; omega))))
      (by repeat (first | exact o6 | refine OT.setN ?_ bl6 (by omega) | refine OT.pushN ?_ bl6 (by first | omega | (simp only [hn_push, hn_set, hn_up]; omega) | (simp only [hn_push, hn_set, hn_up] at *; omega))))
      (by repeat (first | exact o8 | refine OT.setN ?_ bl8 (by omega) | refine OT.pushN ?_ bl8 (by first | omega | (simp only [hn_push, hn_set, hn_up]; omega) | (simp only [hn_push, hn_set, hn_up] at *; omega))))
      (by repeat (first | exact o9 | refine OT.setN ?_ bl9 (by omega) | refine OT.pushN ?_ bl9 (by first | omega | (simp only [hn_push, hn_set, hn_up]; omega) | (simp only [hn_push, hn_set, hn_up] at *; omega))))
      (by repeat (first | exact o12 | refine OT.setN ?_ bl12 (by omega) | refine OT.pushN ?_ bl12 (by first | omega | (simp only [hn_push, hn_set, hn_up]; omega) | (simp only [hn_push, hn_set, hn_up] at *; omega))))
      (by repeat (first | exact o13 | refine OT.setN ?_ bl13 (by omega) | refine OT.pushN ?_ bl13 (by first | omega | (simp only [hn_push, hn_set, hn_up]; omega) | (simp only [hn_push, hn_set, hn_up] at *; omega))))
      (make_ints (b := hn g2 .mk + 1) (by simp -dsimp -implicitDefEqProofs only [go_sem, rq1, rq2, rq3, rq4, rq5, rq6, rq7, hoo, ne1, ne2, nz2, nz3, nz4, nz5, nz6, nz7, nz8, nz9, nz10, nz11, nz12, nz13, nz14, nz15, nz16, nz17, r0, r1, c3, c4, c5, c6, c8, c9, c12, c13]))
      (make_pages (b := hn g2 .mk) (by simp -dsimp -implicitDefEqProofs only [go_sem, rq1, rq2, rq3, rq4, rq5, rq6, rq7, hoo, ne1, ne2, nz2, nz3, nz4, nz5, nz6, nz7, nz8, nz9, nz10, nz11, nz12, nz13, nz14, nz15, nz16, nz17, r0, r1, c3, c4, c5, c6, c8, c9, c12, c13]))
      OT.nil⟩, ?_⟩
    simp only [hn_push, hn_set]
    have hA := Bl.two (x := hn g2 .mk + 1) (y := hn g2 .mk) bl2 (by omega) (by omega) (by omega) (N' := hn g .mk) (M' := hn g2 .mk + 1 + 1) (by omega) (by omega) (by omega) (by omega)
    simpa only [List.append_assoc, List.cons_append, List.nil_append] using hA
  rw [run_alt]
  refine ⟨?_, ?_⟩
  · repeat (first | rw [kz_o] | rw [kz_r0] | simp -dsimp -implicitDefEqProofs only [go_sem, rq1, rq2, rq3, rq4, rq5, rq6, rq7, hoo, ne1, ne2, nz2, nz3, nz4, nz5, hoo, hoo])
    refine make_intro Ai.ty_el27 Ai.ty_zr3 (by decide) ⟨by omega, by have : Ai.most = 1099511627776 := rfl; omega⟩ ?_
    try simp only [hn_push, hn_up]
    have nz6 : ((hn g .mk) == (n1)) = false := by first | (simp; done) | (simp; omega)
    have nz7 : ((n1) == (hn g .mk)) = false := by first | (simp; done) | (simp; omega)
    have nz8 : ((hn g .mk + 1) == (n1)) = false := by first | (simp; done) | (simp; omega)
    have nz9 : ((n1) == (hn g .mk + 1)) = false := by first | (simp; done) | (simp; omega)
    first | (rw [kz_r]; refine ⟨by simp -dsimp -implicitDefEqProofs only [go_sem, rq1, rq2, rq3, rq4, rq5, rq6, rq7, hoo, ne1, ne2, nz2, nz3, nz4, nz5, nz6, nz7, nz8, nz9, hoo, hoo], ?_⟩) | skip
    repeat (first | rw [kz_o] | rw [kz_r0] | simp -dsimp -implicitDefEqProofs only [go_sem, rq1, rq2, rq3, rq4, rq5, rq6, rq7, hoo, ne1, ne2, nz2, nz3, nz4, nz5, nz6, nz7, nz8, nz9, hoo, hoo])
    rw [run_alt]
    refine ⟨?_, ?_⟩
    · repeat (first | rw [kz_o] | rw [kz_r0] | simp -dsimp -implicitDefEqProofs only [go_sem, rq1, rq2, rq3, rq4, rq5, rq6, rq7, hoo, ne1, ne2, nz2, nz3, nz4, nz5, nz6, nz7, nz8, nz9, hoo, hoo])
      refine wz_intro (cloneModel_new (F := F) (c := m) hs) ?_
      rintro _ g2 ⟨l2, ys2, b2, rfl, o2, bl2⟩
      have n2 := l2.1
      try simp only [hn_push, hn_up] at n2 bl2
      have r0 := l2.2 (hn g .mk) (by first | omega | (simp only [hn_push, hn_set, hn_up]; omega) | (simp only [hn_push, hn_set, hn_up] at *; omega))
      have r1 := l2.2 (hn g .mk + 1) (by first | omega | (simp only [hn_push, hn_set, hn_up]; omega) | (simp only [hn_push, hn_set, hn_up] at *; omega))
      have r2 := l2.2 (n1) (by first | omega | (simp only [hn_push, hn_set, hn_up]; omega) | (simp only [hn_push, hn_set, hn_up] at *; omega))
      simp -dsimp -implicitDefEqProofs only [go_sem, rq1, rq2, rq3, rq4, rq5, rq6, rq7, hoo, ne1, ne2, nz2, nz3, nz4, nz5, nz6, nz7, nz8, nz9, hoo, hoo] at r0 r1 r2
      obtain ⟨b3, s3, b4, s4, b5, s5, b6, s6, b8, s8, b9, s9, b12, s12, b13, s13, rfl, rfl, o3, o4, o5, o6, o8, o9, o12, o13⟩ := invModel o2
      have c3 := OT.cell o3
      have c4 := OT.cell o4
      have c5 := OT.cell o5
      have c6 := OT.cell o6
      have c8 := OT.cell o8
      have c9 := OT.cell o9
      have c12 := OT.cell o12
      have c13 := OT.cell o13
      have bl3 := bl2.split.1
      have bl4 := bl2.split.2.1.split.1
      have bl5 := bl2.split.2.1.split.2.1.split.1
      have bl6 := bl2.split.2.1.split.2.1.split.2.1.split.1
      have bl8 := bl2.split.2.1.split.2.1.split.2.1.split.2.1.split.1
      have bl9 := bl2.split.2.1.split.2.1.split.2.1.split.2.1.split.2.1.split.1
      have bl12 := bl2.split.2.1.split.2.1.split.2.1.split.2.1.split.2.1.split.2.1.split.1
      have bl13 := bl2.split.2.1.split.2.1.split.2.1.split.2.1.split.2.1.split.2.1.split.2.1
      have nz10 : ((hn g .mk) == hn g2 .mk) = false := by first | (simp; done) | (simp; omega)
      have nz11 : ((hn g .mk + 1) == hn g2 .mk) = false := by first | (simp; done) | (simp; omega)
      have nz12 : ((n1) == hn g2 .mk) = false := by first | (simp; done) | (simp; omega)
      first | (rw [kz_r]; refine ⟨by simp -dsimp -implicitDefEqProofs only [go_sem, rq1, rq2, rq3, rq4, rq5, rq6, rq7, hoo, ne1, ne2, nz2, nz3, nz4, nz5, nz6, nz7, nz8, nz9, nz10, nz11, nz12, r0, r1, r2, c3, c4, c5, c6, c8, c9, c12, c13], ?_⟩) | skip
      repeat (first | rw [kz_o] | rw [kz_r0] | simp -dsimp -implicitDefEqProofs only [go_sem, rq1, rq2, rq3, rq4, rq5, rq6, rq7, hoo, ne1, ne2, nz2, nz3, nz4, nz5, nz6, nz7, nz8, nz9, nz10, nz11, nz12, r0, r1, r2, c3, c4, c5, c6, c8, c9, c12, c13])
      refine make_intro Ai.ty_el36 Ai.ty_zr171 (by decide) ⟨by omega, by have : Ai.most = 1099511627776 := rfl; omega⟩ ?_
      try simp only [hn_push, hn_up]
      have nz13 : ((hn g .mk) == (hn g2 .mk)) = false := by first | (simp; done) | (simp; omega)
      have nz14 : ((hn g2 .mk) == (hn g .mk)) = false := by first | (simp; done) | (simp; omega)
      have nz15 : ((hn g .mk + 1) == (hn g2 .mk)) = false := by first | (simp; done) | (simp; omega)
      have nz16 : ((hn g2 .mk) == (hn g .mk + 1)) = false := by first | (simp; done) | (simp; omega)
      have nz17 : ((n1) == (hn g2 .mk)) = false := by first | (simp; done) | (simp; omega)
      have nz18 : ((hn g2 .mk) == (n1)) = false := by first | (simp; done) | (simp; omega)
      first | (rw [kz_r]; refine ⟨by simp -dsimp -implicitDefEqProofs only [go_sem, rq1, rq2, rq3, rq4, rq5, rq6, rq7, hoo, ne1, ne2, nz2, nz3, nz4, nz5, nz6, nz7, nz8, nz9, nz10, nz11, nz12, nz13, nz14, nz15, nz16, nz17, nz18, r0, r1, r2, c3, c4, c5, c6, c8, c9, c12, c13], ?_⟩) | skip
      repeat (first | rw [kz_o] | rw [kz_r0] | simp -dsimp -implicitDefEqProofs only [go_sem, rq1, rq2, rq3, rq4, rq5, rq6, rq7, hoo, ne1, ne2, nz2, nz3, nz4, nz5, nz6, nz7, nz8, nz9, nz10, nz11, nz12, nz13, nz14, nz15, nz16, nz17, nz18, r0, r1, r2, c3, c4, c5, c6, c8, c9, c12, c13])
      have hb3 := bl2
      refine ⟨by repeat (first | exact H2.le.refl _ | assumption | exact l2 | apply le_push | refine le_set ?_ (by omega) | refine le_up ?_ (by first | omega | (simp only [hn_push, hn_set, hn_up]; omega) | (simp only [hn_push, hn_set, hn_up] at *; omega)) | refine H2.le.trans ?_ l2), _, ⟨_, rfl, outEngine (c := ⟨m, ⟨List.replicate p.toNat 0, List.replicate p.toNat []⟩, []⟩)
        (by repeat (first | exact o3 | refine OT.setN ?_ bl3 (by omega) | refine OT.pushN ?_ bl3 (by first | omega | (simp only [hn_push, hn_set, hn_up]; omega) | (simp only [hn_push, hn_set, hn_up] at *; omega))))
        (by repeat (first | exact o4 | refine OT.setN ?_ bl4 (by omega) | refine OT.pushN ?_ bl4 (by first | omega | (simp only [hn_push, hn_set, hn_up]; omega) | (simp only [hn_push, hn_set, hn_up] at *; omega))))
        (by repeat (first | exact o5 | refine OT.setN ?_ bl5 (by omega) | refine OT.pushN ?_ bl5 (by first | omega | (simp only [hn_push, hn_set, hn_up]; omega) | (simp only [hn_push, hn_set, hn_up] at *; omega))))
        (by repeat (first | exact o6 | refine OT.setN ?_ bl6 (by omega) | refine OT.pushN ?_ bl6 (by first | omega | (simp only [hn_push, hn_set, hn_up]; omega) | (simp only [hn_push, hn_set, hn_up] at *; omega))))
        (by repeat (first | exact o8 | refine OT.setN ?_ bl8 (by omega) | refine OT.pushN ?_ bl8 (by first | omega | (simp only [hn_push, hn_set, hn_up]; omega) | (simp only [hn_push, hn_set, hn_up] at *; omega))))
        (by repeat (first | exact o9 | refine OT.setN ?_ bl9 (by omega) | refine OT.pushN ?_ bl9 (by first | omega | (simp only [hn_push, hn_set, hn_up]; omega) | (simp only [hn_push, hn_set, hn_up] at *; omega))))
        (by repeat (first | exact o12 | refine OT.setN ?_ bl12 (by omega) | refine OT.pushN ?_ bl12 (by first | omega | (simp only [hn_push, hn_set, hn_up]; omega) | (simp only [hn_push, hn_set, hn_up] at *; omega))))
        (by repeat (first | exact o13 | refine OT.setN ?_ bl13 (by omega) | refine OT.pushN ?_ bl13 (by first | omega | (simp only [hn_push, hn_set, hn_up]; omega) | (simp only [hn_push, hn_set, hn_up] at *; omega))))
        (make_ints (b := n1) (by simp -dsimp -implicitDefEqProofs only [go_sem, rq1, rq2, rq3, rq4, rq5, rq6, rq7, hoo, ne1, ne2, nz2, nz3, nz4, nz5, nz6, nz7, nz8, nz9, nz10, nz11, nz12, nz13, nz14, nz15, nz16, nz17, nz18, r0, r1, r2, c3, c4, c5, c6, c8, c9, c12, c13]))
        (make_pages (b := hn g2 .mk) (by simp -dsimp -implicitDefEqProofs only [go_sem, rq1, rq2, rq3, rq4, rq5, rq6, rq7, hoo, ne1, ne2, nz2, nz3, nz4, nz5, nz6, nz7, nz8, nz9, nz10, nz11, nz12, nz13, nz14, nz15, nz16, nz17, nz18, r0, r1, r2, c3, c4, c5, c6, c8, c9, c12, c13]))
        OT.nil⟩, ?_⟩
      simp only [hn_push, hn_set]
      have hA := Bl.two (x := n1) (y := hn g2 .mk) bl2 (by omega) (by omega) (by omega) (N' := hn g .mk) (M' := hn g2 .mk + 1) (by omega) (by omega) (by omega) (by omega)
      simpa only [List.append_assoc, List.cons_append, List.nil_append] using hA
    repeat (first | rw [kz_o] | rw [kz_r0] | simp -dsimp -implicitDefEqProofs only [go_sem, rq1, rq2, rq3, rq4, rq5, rq6, rq7, hoo, ne1, ne2, nz2, nz3, nz4, nz5, nz6, nz7, nz8, nz9, hoo, hoo])
    refine make_intro Ai.ty_el36 Ai.ty_zr171 (by decide) ⟨by omega, by have : Ai.most = 1099511627776 := rfl; omega⟩ ?_
    try simp only [hn_push, hn_up]
    have nz10 : ((hn g .mk) == (n1 + 1)) = false := by first | (simp; done) | (simp; omega)
    have nz11 : ((n1 + 1) == (hn g .mk)) = false := by first | (simp; done) | (simp; omega)
    have nz12 : ((hn g .mk + 1) == (n1 + 1)) = false := by first | (simp; done) | (simp; omega)
    have nz13 : ((n1 + 1) == (hn g .mk + 1)) = false := by first | (simp; done) | (simp; omega)
    have nz14 : ((n1) == (n1 + 1)) = false := by first | (simp; done) | (simp; omega)
    have nz15 : ((n1 + 1) == (n1)) = false := by first | (simp; done) | (simp; omega)
    first | (rw [kz_r]; refine ⟨by simp -dsimp -implicitDefEqProofs only [go_sem, rq1, rq2, rq3, rq4, rq5, rq6, rq7, hoo, ne1, ne2, nz2, nz3, nz4, nz5, nz6, nz7, nz8, nz9, nz10, nz11, nz12, nz13, nz14, nz15, hoo, hoo], ?_⟩) | skip
    repeat (first | rw [kz_o] | rw [kz_r0] | simp -dsimp -implicitDefEqProofs only [go_sem, rq1, rq2, rq3, rq4, rq5, rq6, rq7, hoo, ne1, ne2, nz2, nz3, nz4, nz5, nz6, nz7, nz8, nz9, nz10, nz11, nz12, nz13, nz14, nz15, hoo, hoo])
    refine wz_intro (cloneModel_new (F := F) (c := m) hs) ?_
    rintro _ g2 ⟨l2, ys2, b2, rfl, o2, bl2⟩
    have n2 := l2.1
    try simp only [hn_push, hn_up] at n2 bl2
    have r0 := l2.2 (hn g .mk) (by first | omega | (simp only [hn_push, hn_set, hn_up]; omega) | (simp only [hn_push, hn_set, hn_up] at *; omega))
    have r1 := l2.2 (hn g .mk + 1) (by first | omega | (simp only [hn_push, hn_set, hn_up]; omega) | (simp only [hn_push, hn_set, hn_up] at *; omega))
    have r2 := l2.2 (n1) (by first | omega | (simp only [hn_push, hn_set, hn_up]; omega) | (simp only [hn_push, hn_set, hn_up] at *; omega))
    have r3 := l2.2 (n1 + 1) (by first | omega | (simp only [hn_push, hn_set, hn_up]; omega) | (simp only [hn_push, hn_set, hn_up] at *; omega))
    simp -dsimp -implicitDefEqProofs only [go_sem, rq1, rq2, rq3, rq4, rq5, rq6, rq7, hoo, ne1, ne2, nz2, nz3, nz4, nz5, nz6, nz7, nz8, nz9, nz10, nz11, nz12, nz13, nz14, nz15, hoo, hoo] at r0 r1 r2 r3
    obtain ⟨b3, s3, b4, s4, b5, s5, b6, s6, b8, s8, b9, s9, b12, s12, b13, s13, rfl, rfl, o3, o4, o5, o6, o8, o9, o12, o13⟩ := invModel o2
    have c3 := OT.cell o3
    have c4 := OT.cell o4
    have c5 := OT.cell o5
    have c6 := OT.cell o6
    have c8 := OT.cell o8
    have c9 := OT.cell o9
    have c12 := OT.cell o12
    have c13 := OT.cell o13
    have bl3 := bl2.split.1
    have bl4 := bl2.split.2.1.split.1
    have bl5 := bl2.split.2.1.split.2.1.split.1
    have bl6 := bl2.split.2.1.split.2.1.split.2.1.split.1
    have bl8 := bl2.split.2.1.split.2.1.split.2.1.split.2.1.split.1
    have bl9 := bl2.split.2.1.split.2.1.split.2.1.split.2.1.split.2.1.split.1
    have bl12 := bl2.split.2.1.split.2.1.split.2.1.split.2.1.split.2.1.split.2.1.split.1
    have bl13 := bl2.split.2.1.split.2.1.split.2.1.split.2.1.split.2.1.split.2.1.split.2.1
    have nz16 : ((hn g .mk) == hn g2 .mk) = false := by first | (simp; done) | (simp; omega)
    have nz17 : ((hn g .mk + 1) == hn g2 .mk) = false := by first | (simp; done) | (simp; omega)
    have nz18 : ((n1) == hn g2 .mk) = false := by first | (simp; done) | (simp; omega)
    have nz19 : ((n1 + 1) == hn g2 .mk) = false := by first | (simp; done) | (simp; omega)
    first | (rw [kz_r]; refine ⟨by simp -dsimp -implicitDefEqProofs only [go_sem, rq1, rq2, rq3, rq4, rq5, rq6, rq7, hoo, ne1, ne2, nz2, nz3, nz4, nz5, nz6, nz7, nz8, nz9, nz10, nz11, nz12, nz13, nz14, nz15, nz16, nz17, nz18, nz19, r0, r1, r2, r3, c3, c4, c5, c6, c8, c9, c12, c13], ?_⟩) | skip
    repeat (first | rw [kz_o] | rw [kz_r0] | simp -dsimp -implicitDefEqProofs only [go_sem, rq1, rq2, rq3, rq4, rq5, rq6, rq7, hoo, ne1, ne2, nz2, nz3, nz4, nz5, nz6, nz7, nz8, nz9, nz10, nz11, nz12, nz13, nz14, nz15, nz16, nz17, nz18, nz19, r0, r1, r2, r3, c3, c4, c5, c6, c8, c9, c12, c13])
    have hb3 := bl2
    refine ⟨by repeat (first | exact H2.le.refl _ | assumption | exact l2 | apply le_push | refine le_set ?_ (by omega) | refine le_up ?_ (by first | omega | (simp only [hn_push, hn_set, hn_up]; omega) | (simp only [hn_push, hn_set, hn_up] at *; omega)) | refine H2.le.trans ?_ l2), _, ⟨_, rfl, outEngine (c := ⟨m, ⟨List.replicate p.toNat 0, List.replicate p.toNat []⟩, []⟩)
      (by repeat (first | exact o3 | refine OT.setN ?_ bl3 (by omega) | refine OT.pushN ?_ bl3 (by first | omega | (simp only [hn_push, hn_set, hn_up]; omega) | (simp only [hn_push, hn_set, hn_up] at *; omega))))
      (by repeat (first | exact o4 | refine OT.setN ?_ bl4 (by omega) | refine OT.pushN ?_ bl4 (by first | omega | (simp only [hn_push, hn_set, hn_up]; omega) | (simp only [hn_push, hn_set, hn_up] at *; omega))))
      (by repeat (first | exact o5 | refine OT.setN ?_ bl5 (by omega) | refine OT.pushN ?_ bl5 (by first | omega | (simp only [hn_push, hn_set, hn_up]; omega) | (simp only [hn_push, hn_set, hn_up] at *; omega))))
      (by repeat (first | exact o6 | refine OT.setN ?_ bl6 (by omega) | refine OT.pushN ?_ bl6 (by first | omega | (simp only [hn_push, hn_set, hn_up]; omega) | (simp only [hn_push, hn_set, hn_up] at *; omega))))
      (by repeat (first | exact o8 | refine OT.setN ?_ bl8 (by omega) | refine OT.pushN ?_ bl8 (by first | omega | (simp only [hn_push, hn_set, hn_up]; omega) | (simp only [hn_push, hn_set, hn_up] at *; omega))))
      (by repeat (first | exact o9 | refine OT.setN ?_ bl9 (by omega) | refine OT.pushN ?_ bl9 (by first | omega | (simp only [hn_push, hn_set, hn_up]; omega) | (simp only [hn_push, hn_set, hn_up] at *; omega))))
      (by repeat (first | exact o12 | refine OT.setN ?_ bl12 (by omega) | refine OT.pushN ?_ bl12 (by first | omega | (simp only [hn_push, hn_set, hn_up]; omega) | (simp only [hn_push, hn_set, hn_up] at *; omega))))
      (by repeat (first | exact o13 | refine OT.setN ?_ bl13 (by omega) | refine OT.pushN ?_ bl13 (by first | omega | (simp only [hn_push, hn_set, hn_up]; omega) | (simp only [hn_push, hn_set, hn_up] at *; omega))))
      (make_ints (b := n1) (by simp -dsimp -implicitDefEqProofs only [go_sem, rq1, rq2, rq3, rq4, rq5, rq6, rq7, hoo, ne1, ne2, nz2, nz3, nz4, nz5, nz6, nz7, nz8, nz9, nz10, nz11, nz12, nz13, nz14, nz15, nz16, nz17, nz18, nz19, r0, r1, r2, r3, c3, c4, c5, c6, c8, c9, c12, c13]))
      (make_pages (b := n1 + 1) (by simp -dsimp -implicitDefEqProofs only [go_sem, rq1, rq2, rq3, rq4, rq5, rq6, rq7, hoo, ne1, ne2, nz2, nz3, nz4, nz5, nz6, nz7, nz8, nz9, nz10, nz11, nz12, nz13, nz14, nz15, nz16, nz17, nz18, nz19, r0, r1, r2, r3, c3, c4, c5, c6, c8, c9, c12, c13]))
      OT.nil⟩, ?_⟩
    simp only [hn_push, hn_set]
    have hA := Bl.two (x := n1) (y := n1 + 1) bl2 (by omega) (by omega) (by omega) (N' := hn g .mk) (M' := hn g2 .mk) (by omega) (by omega) (by omega) (by omega)
    simpa only [List.append_assoc, List.cons_append, List.nil_append] using hA
  repeat (first | rw [kz_o] | rw [kz_r0] | simp -dsimp -implicitDefEqProofs only [go_sem, rq1, rq2, rq3, rq4, rq5, rq6, rq7, hoo, ne1, ne2, nz2, nz3, nz4, nz5, hoo, hoo])
  refine make_intro Ai.ty_el36 Ai.ty_zr171 (by decide) ⟨by omega, by have : Ai.most = 1099511627776 := rfl; omega⟩ ?_
  try simp only [hn_push, hn_up]
  have nz6 : ((hn g .mk) == (n1)) = false := by first | (simp; done) | (simp; omega)
  have nz7 : ((n1) == (hn g .mk)) = false := by first | (simp; done) | (simp; omega)
  have nz8 : ((hn g .mk + 1) == (n1)) = false := by first | (simp; done) | (simp; omega)
  have nz9 : ((n1) == (hn g .mk + 1)) = false := by first | (simp; done) | (simp; omega)
  first | (rw [kz_r]; refine ⟨by simp -dsimp -implicitDefEqProofs only [go_sem, rq1, rq2, rq3, rq4, rq5, rq6, rq7, hoo, ne1, ne2, nz2, nz3, nz4, nz5, nz6, nz7, nz8, nz9, hoo, hoo], ?_⟩) | skip
  repeat (first | rw [kz_o] | rw [kz_r0] | simp -dsimp -implicitDefEqProofs only [go_sem, rq1, rq2, rq3, rq4, rq5, rq6, rq7, hoo, ne1, ne2, nz2, nz3, nz4, nz5, nz6, nz7, nz8, nz9, hoo, hoo])
  rw [run_alt]
  refine ⟨?_, ?_⟩
  · repeat (first | rw [kz_o] | rw [kz_r0] | simp -dsimp -implicitDefEqProofs only [go_sem, rq1, rq2, rq3, rq4, rq5, rq6, rq7, hoo, ne1, ne2, nz2, nz3, nz4, nz5, nz6, nz7, nz8, nz9, hoo, hoo])
    refine wz_intro (cloneModel_new (F := F) (c := m) hs) ?_
    rintro _ g2 ⟨l2, ys2, b2, rfl, o2, bl2⟩
    have n2 := l2.1
    try simp only [hn_push, hn_up] at n2 bl2
    have r0 := l2.2 (hn g .mk) (by first | omega | (simp only [hn_push, hn_set, hn_up]; omega) | (simp only [hn_push, hn_set, hn_up] at *; omega))
    have r1 := l2.2 (hn g .mk + 1) (by first | omega | (simp only [hn_push, hn_set, hn_up]; omega) | (simp only [hn_push, hn_set, hn_up] at *; omega))
    have r2 := l2.2 (n1) (by first | omega | (simp only [hn_push, hn_set, hn_up]; omega) | (simp only [hn_push, hn_set, hn_up] at *; omega))
    simp -dsimp -implicitDefEqProofs only [go_sem, rq1, rq2, rq3, rq4, rq5, rq6, rq7, hoo, ne1, ne2, nz2, nz3, nz4, nz5, nz6, nz7, nz8, nz9, hoo, hoo] at r0 r1 r2
    obtain ⟨b3, s3, b4, s4, b5, s5, b6, s6, b8, s8, b9, s9, b12, s12, b13, s13, rfl, rfl, o3, o4, o5, o6, o8, o9, o12, o13⟩ := invModel o2
    have c3 := OT.cell o3
    have c4 := OT.cell o4
    have c5 := OT.cell o5
    have c6 := OT.cell o6
    have c8 := OT.cell o8
    have c9 := OT.cell o9
    have c12 := OT.cell o12
    have c13 := OT.cell o13
    have bl3 := bl2.split.1
    have bl4 := bl2.split.2.1.split.1
    have bl5 := bl2.split.2.1.split.2.1.split.1
    have bl6 := bl2.split.2.1.split.2.1.split.2.1.split.1
    have bl8 := bl2.split.2.1.split.2.1.split.2.1.split.2.1.split.1
    have bl9 := bl2.split.2.1.split.2.1.split.2.1.split.2.1.split.2.1.split.1
    have bl12 := bl2.split.2.1.split.2.1.split.2.1.split.2.1.split.2.1.split.2.1.split.1
    have bl13 := bl2.split.2.1.split.2.1.split.2.1.split.2.1.split.2.1.split.2.1.split.2.1
    have nz10 : ((hn g .mk) == hn g2 .mk) = false := by first | (simp; done) | (simp; omega)
    have nz11 : ((hn g .mk + 1) == hn g2 .mk) = false := by first | (simp; done) | (simp; omega)
    have nz12 : ((n1) == hn g2 .mk) = false := by first | (simp; done) | (simp; omega)
    first | (rw [kz_r]; refine ⟨by simp -dsimp -implicitDefEqProofs only [go_sem, rq1, rq2, rq3, rq4, rq5, rq6, rq7, hoo, ne1, ne2, nz2, nz3, nz4, nz5, nz6, nz7, nz8, nz9, nz10, nz11, nz12, r0, r1, r2, c3, c4, c5, c6, c8, c9, c12, c13], ?_⟩) | skip
    repeat (first | rw [kz_o] | rw [kz_r0] | simp -dsimp -implicitDefEqProofs only [go_sem, rq1, rq2, rq3, rq4, rq5, rq6, rq7, hoo, ne1, ne2, nz2, nz3, nz4, nz5, nz6, nz7, nz8, nz9, nz10, nz11, nz12, r0, r1, r2, c3, c4, c5, c6, c8, c9, c12, c13])
    refine make_intro Ai.ty_el27 Ai.ty_zr3 (by decide) ⟨by omega, by have : Ai.most = 1099511627776 := rfl; omega⟩ ?_
    try simp only [hn_push, hn_up]
    have nz13 : ((hn g .mk) == (hn g2 .mk)) = false := by first | (simp; done) | (simp; omega)
    have nz14 : ((hn g2 .mk) == (hn g .mk)) = false := by first | (simp; done) | (simp; omega)
    have nz15 : ((hn g .mk + 1) == (hn g2 .mk)) = false := by first | (simp; done) | (simp; omega)
    have nz16 : ((hn g2 .mk) == (hn g .mk + 1)) = false := by first | (simp; done) | (simp; omega)
    have nz17 : ((n1) == (hn g2 .mk)) = false := by first | (simp; done) | (simp; omega)
    have nz18 : ((hn g2 .mk) == (n1)) = false := by first | (simp; done) | (simp; omega)
    first | (rw [kz_r]; refine ⟨by simp -dsimp -implicitDefEqProofs only [go_sem, rq1, rq2, rq3, rq4, rq5, rq6, rq7, hoo, ne1, ne2, nz2, nz3, nz4, nz5, nz6, nz7, nz8, nz9, nz10, nz11, nz12, nz13, nz14, nz15, nz16, nz17, nz18, r0, r1, r2, c3, c4, c5, c6, c8, c9, c12, c13], ?_⟩) | skip
    repeat (first | rw [kz_o] | rw [kz_r0] | simp -dsimp -implicitDefEqProofs only [go_sem, rq1, rq2, rq3, rq4, rq5, rq6, rq7, hoo, ne1, ne2, nz2, nz3, nz4, nz5, nz6, nz7, nz8, nz9, nz10, nz11, nz12, nz13, nz14, nz15, nz16, nz17, nz18, r0, r1, r2, c3, c4, c5, c6, c8, c9, c12, c13])
    have hb3 := bl2
    refine ⟨by repeat (first | exact H2.le.refl _ | assumption | exact l2 | apply le_push | refine le_set ?_ (by omega) | refine le_up ?_ (by first | omega | (simp only [hn_push, hn_set, hn_up]; omega) | (simp only [hn_push, hn_set, hn_up] at *; omega)) | refine H2.le.trans ?_ l2), _, ⟨_, rfl, outEngine (c := ⟨m, ⟨List.replicate p.toNat 0, List.replicate p.toNat []⟩, []⟩)
      (by repeat (first | exact o3 | refine OT.setN ?_ bl3 (by omega) | refine OT.pushN ?_ bl3 (by first | omega | (simp only [hn_push, hn_set, hn_up]; omega) | (simp only [hn_push, hn_set, hn_up] at *; omega))))
      (by repeat (first | exact o4 | refine OT.setN ?_ bl4 (by omega) | refine OT.pushN ?_ bl4 (by first | omega | (simp only [hn_push, hn_set, hn_up]; omega) | (simp only [hn_push, hn_set, hn_up] at *; omega))))
      (by repeat (first | exact o5 | refine OT.setN ?_ bl5 (by omega) | refine OT.pushN ?_ bl5 (by first | omega | (simp only [hn_push, hn_set, hn_up]; omega) | (simp only [hn_push, hn_set, hn_up] at *; omega))))
      (by repeat (first | exact o6 | refine OT.setN ?_ bl6 (by omega) | refine OT.pushN ?_ bl6 (by first | omega | (simp only [hn_push, hn_set, hn_up]; omega) | (simp only [hn_push, hn_set, hn_up] at *; omega))))
      (by repeat (first | exact o8 | refine OT.setN ?_ bl8 (by omega) | refine OT.pushN ?_ bl8 (by first | omega | (simp only [hn_push, hn_set, hn_up]; omega) | (simp only [hn_push, hn_set, hn_up] at *; omega))))
      (by repeat (first | exact o9 | refine OT.setN ?_ bl9 (by omega) | refine OT.pushN ?_ bl9 (by first | omega | (simp only [hn_push, hn_set, hn_up]; omega) | (simp only [hn_push, hn_set, hn_up] at *; omega))))
      (by repeat (first | exact o12 | refine OT.setN ?_ bl12 (by omega) | refine OT.pushN ?_ bl12 (by first | omega | (simp only [hn_push, hn_set, hn_up]; omega) | (simp only [hn_push, hn_set, hn_up] at *; omega))))
      (by repeat (first | exact o13 | refine OT.setN ?_ bl13 (by omega) | refine OT.pushN ?_ bl13 (by first | omega | (simp only [hn_push, hn_set, hn_up]; omega) | (simp only [hn_push, hn_set, hn_up] at *; omega))))
      (make_ints (b := hn g2 .mk) (by simp -dsimp -implicitDefEqProofs only [go_sem, rq1, rq2, rq3, rq4, rq5, rq6, rq7, hoo, ne1, ne2, nz2, nz3, nz4, nz5, nz6, nz7, nz8, nz9, nz10, nz11, nz12, nz13, nz14, nz15, nz16, nz17, nz18, r0, r1, r2, c3, c4, c5, c6, c8, c9, c12, c13]))
      (make_pages (b := n1) (by simp -dsimp -implicitDefEqProofs only [go_sem, rq1, rq2, rq3, rq4, rq5, rq6, rq7, hoo, ne1, ne2, nz2, nz3, nz4, nz5, nz6, nz7, nz8, nz9, nz10, nz11, nz12, nz13, nz14, nz15, nz16, nz17, nz18, r0, r1, r2, c3, c4, c5, c6, c8, c9, c12, c13]))
      OT.nil⟩, ?_⟩
    simp only [hn_push, hn_set]
    have hA := Bl.two (x := hn g2 .mk) (y := n1) bl2 (by omega) (by omega) (by omega) (N' := hn g .mk) (M' := hn g2 .mk + 1) (by omega) (by omega) (by omega) (by omega)
    simpa only [List.append_assoc, List.cons_append, List.nil_append] using hA
  repeat (first | rw [kz_o] | rw [kz_r0] | simp -dsimp -implicitDefEqProofs only [go_sem, rq1, rq2, rq3, rq4, rq5, rq6, rq7, hoo, ne1, ne2, nz2, nz3, nz4, nz5, nz6, nz7, nz8, nz9, hoo, hoo])
  refine make_intro Ai.ty_el27 Ai.ty_zr3 (by decide) ⟨by omega, by have : Ai.most = 1099511627776 := rfl; omega⟩ ?_
  try simp only [hn_push, hn_up]
  have nz10 : ((hn g .mk) == (n1 + 1)) = false := by first | (simp; done) | (simp; omega)
  have nz11 : ((n1 + 1) == (hn g .mk)) = false := by first | (simp; done) | (simp; omega)
  have nz12 : ((hn g .mk + 1) == (n1 + 1)) = false := by first | (simp; done) | (simp; omega)
  have nz13 : ((n1 + 1) == (hn g .mk + 1)) = false := by first | (simp; done) | (simp; omega)
  have nz14 : ((n1) == (n1 + 1)) = false := by first | (simp; done) | (simp; omega)
  have nz15 : ((n1 + 1) == (n1)) = false := by first | (simp; done) | (simp; omega)
  first | (rw [kz_r]; refine ⟨by simp -dsimp -implicitDefEqProofs only [go_sem, rq1, rq2, rq3, rq4, rq5, rq6, rq7, hoo, ne1, ne2, nz2, nz3, nz4, nz5, nz6, nz7, nz8, nz9, nz10, nz11, nz12, nz13, nz14, nz15, hoo, hoo], ?_⟩) | skip
  repeat (first | rw [kz_o] | rw [kz_r0] | simp -dsimp -implicitDefEqProofs only [go_sem, rq1, rq2, rq3, rq4, rq5, rq6, rq7, hoo, ne1, ne2, nz2, nz3, nz4, nz5, nz6, nz7, nz8, nz9, nz10, nz11, nz12, nz13, nz14, nz15, hoo, hoo])
  refine wz_intro (cloneModel_new (F := F) (c := m) hs) ?_
  rintro _ g2 ⟨l2, ys2, b2, rfl, o2, bl2⟩
  have n2 := l2.1
  try simp only [hn_push, hn_up] at n2 bl2
  have r0 := l2.2 (hn g .mk) (by first | omega | (simp only [hn_push, hn_set, hn_up]; omega) | (simp only [hn_push, hn_set, hn_up] at *; omega))
  have r1 := l2.2 (hn g .mk + 1) (by first | omega | (simp only [hn_push, hn_set, hn_up]; omega) | (simp only [hn_push, hn_set, hn_up] at *; omega))
  have r2 := l2.2 (n1) (by first | omega | (simp only [hn_push, hn_set, hn_up]; omega) | (simp only [hn_push, hn_set, hn_up] at *; omega))
  have r3 := l2.2 (n1 + 1) (by first | omega | (simp only [hn_push, hn_set, hn_up]; omega) | (simp only [hn_push, hn_set, hn_up] at *; omega))
  simp -dsimp -implicitDefEqProofs only [go_sem, rq1, rq2, rq3, rq4, rq5, rq6, rq7, hoo, ne1, ne2, nz2, nz3, nz4, nz5, nz6, nz7, nz8, nz9, nz10, nz11, nz12, nz13, nz14, nz15, hoo, hoo] at r0 r1 r2 r3
  obtain ⟨b3, s3, b4, s4, b5, s5, b6, s6, b8, s8, b9, s9, b12, s12, b13, s13, rfl, rfl, o3, o4, o5, o6, o8, o9, o12, o13⟩ := invModel o2
  have c3 := OT.cell o3
  have c4 := OT.cell o4
  have c5 := OT.cell o5
  have c6 := OT.cell o6
  have c8 := OT.cell o8
  have c9 := OT.cell o9
  have c12 := OT.cell o12
  have c13 := OT.cell o13
  have bl3 := bl2.split.1
  have bl4 := bl2.split.2.1.split.1
  have bl5 := bl2.split.2.1.split.2.1.split.1
  have bl6 := bl2.split.2.1.split.2.1.split.2.1.split.1
  have bl8 := bl2.split.2.1.split.2.1.split.2.1.split.2.1.split.1
  have bl9 := bl2.split.2.1.split.2.1.split.2.1.split.2.1.split.2.1.split.1
  have bl12 := bl2.split.2.1.split.2.1.split.2.1.split.2.1.split.2.1.split.2.1.split.1
  have bl13 := bl2.split.2.1.split.2.1.split.2.1.split.2.1.split.2.1.split.2.1.split.2.1
  have nz16 : ((hn g .mk) == hn g2 .mk) = false := by first | (simp; done) | (simp; omega)
  have nz17 : ((hn g .mk + 1) == hn g2 .mk) = false := by first | (simp; done) | (simp; omega)
  have nz18 : ((n1) == hn g2 .mk) = false := by first | (simp; done) | (simp; omega)
  have nz19 : ((n1 + 1) == hn g2 .mk) = false := by first | (simp; done) | (simp; omega)
  first | (rw [kz_r]; refine ⟨by simp -dsimp -implicitDefEqProofs only [go_sem, rq1, rq2, rq3, rq4, rq5, rq6, rq7, hoo, ne1, ne2, nz2, nz3, nz4, nz5, nz6, nz7, nz8, nz9, nz10, nz11, nz12, nz13, nz14, nz15, nz16, nz17, nz18, nz19, r0, r1, r2, r3, c3, c4, c5, c6, c8, c9, c12, c13], ?_⟩) | skip
  repeat (first | rw [kz_o] | rw [kz_r0] | simp -dsimp -implicitDefEqProofs only [go_sem, rq1, rq2, rq3, rq4, rq5, rq6, rq7, hoo, ne1, ne2, nz2, nz3, nz4, nz5, nz6, nz7, nz8, nz9, nz10, nz11, nz12, nz13, nz14, nz15, nz16, nz17, nz18, nz19, r0, r1, r2, r3, c3, c4, c5, c6, c8, c9, c12, c13])
  have hb3 := bl2
  refine ⟨by repeat (first | exact H2.le.refl _ | assumption | exact l2 | apply le_push | refine le_set ?_ (by omega) | refine le_up ?_ (by first | omega | (simp only [hn_push, hn_set, hn_up]; omega) | (simp only [hn_push, hn_set, hn_up] at *; omega)) | refine H2.le.trans ?_ l2), _, ⟨_, rfl, outEngine (c := ⟨m, ⟨List.replicate p.toNat 0, List.replicate p.toNat []⟩, []⟩)
    (by repeat (first | exact o3 | refine OT.setN ?_ bl3 (by omega) | refine OT.pushN ?_ bl3 (by first | omega | (simp only [hn_push, hn_set, hn_up]; omega) | (simp only [hn_push, hn_set, hn_up] at *; omega))))
    (by repeat (first | exact o4 | refine OT.setN ?_ bl4 (by omega) | refine OT.pushN ?_ bl4 (by first | omega | (simp only [hn_push, hn_set, hn_up]; omega) | (simp only [hn_push, hn_set, hn_up] at *; omega))))
    (by repeat (first | exact o5 | refine OT.setN ?_ bl5 (by omega) | refine OT.pushN ?_ bl5 (by first | omega | (simp only [hn_push, hn_set, hn_up]; omega) | (simp only [hn_push, hn_set, hn_up] at *; omega))))
    (by repeat (first | exact o6 | refine OT.setN ?_ bl6 (by omega) | refine OT.pushN ?_ bl6 (by first | omega | (simp only [hn_push, hn_set, hn_up]; omega) | (simp only [hn_push, hn_set, hn_up] at *; omega))))
    (by repeat (first | exact o8 | refine OT.setN ?_ bl8 (by omega) | refine OT.pushN ?_ bl8 (by first | omega | (simp only [hn_push, hn_set, hn_up]; omega) | (simp only [hn_push, hn_set, hn_up] at *; omega))))
    (by repeat (first | exact o9 | refine OT.setN ?_ bl9 (by omega) | refine OT.pushN ?_ bl9 (by first | omega | (simp only [hn_push, hn_set, hn_up]; omega) | (simp only [hn_push, hn_set, hn_up] at *; omega))))
    (by repeat (first | exact o12 | refine OT.setN ?_ bl12 (by omega) | refine OT.pushN ?_ bl12 (by first | omega | (simp only [hn_push, hn_set, hn_up]; omega) | (simp only [hn_push, hn_set, hn_up] at *; omega))))
    (by repeat (first | exact o13 | refine OT.setN ?_ bl13 (by omega) | refine OT.pushN ?_ bl13 (by first | omega | (simp only [hn_push, hn_set, hn_up]; omega) | (simp only [hn_push, hn_set, hn_up] at *; omega))))
    (make_ints (b := n1 + 1) (by simp -dsimp -implicitDefEqProofs only [go_sem, rq1, rq2, rq3, rq4, rq5, rq6, rq7, hoo, ne1, ne2, nz2, nz3, nz4, nz5, nz6, nz7, nz8, nz9, nz10, nz11, nz12, nz13, nz14, nz15, nz16, nz17, nz18, nz19, r0, r1, r2, r3, c3, c4, c5, c6, c8, c9, c12, c13]))
    (make_pages (b := n1) (by simp -dsimp -implicitDefEqProofs only [go_sem, rq1, rq2, rq3, rq4, rq5, rq6, rq7, hoo, ne1, ne2, nz2, nz3, nz4, nz5, nz6, nz7, nz8, nz9, nz10, nz11, nz12, nz13, nz14, nz15, nz16, nz17, nz18, nz19, r0, r1, r2, r3, c3, c4, c5, c6, c8, c9, c12, c13]))
    OT.nil⟩, ?_⟩
  simp only [hn_push, hn_set]
  have hA := Bl.two (x := n1 + 1) (y := n1) bl2 (by omega) (by omega) (by omega) (N' := hn g .mk) (M' := hn g2 .mk) (by omega) (by omega) (by omega) (by omega)
  simpa only [List.append_assoc, List.cons_append, List.nil_append] using hA
theorem specNew_ok {F : Nat → Adr} {m : LModel} {p : Int} {g : H2} (hs : szModel m ≤ 1048576) : WC2 Tryz.prog W0 14 [.st (xModel F m), .raw (.int .i64 p)] g fun x g' => g.le g' ∧ ∃ bs, RTup (eEngine (newE m p)) (.bool (newB m p)) x g' bs ∧ Bl (hn g .mk) (hn g' .mk) bs := by
  refine start (P := Tryz.prog) [[0, 1], [1, 2, 4], [4], [1, 2, 4]] (by kernel_rfl) Tryz.func14 rfl (by decide) (by decide +kernel) (rs := [.cell 4 41, .tmp 5]) rfl rfl (Nat.le_of_ble_eq_true rfl) ?_
  intro wf
  have ne1 : (hn g .mk == hn g .mk + 1) = false := by simp
  have ne2 : (hn g .mk + 1 == hn g .mk) = false := by simp
  repeat (first | rw [kz_o] | rw [kz_r0] | simp -dsimp -implicitDefEqProofs only [go_sem, rq1, rq2, rq3, rq4, rq5, rq6, rq7, hoo, ne1, ne2])
  refine pw_intro (specModel_ok (F := F) (m := m) (smallMod_of hs)) ?_
  rintro _ n1 hn1 rfl
  simp only [hn_push] at hn1
  first | (rw [kz_r]; refine ⟨by simp -dsimp -implicitDefEqProofs only [go_sem, rq1, rq2, rq3, rq4, rq5, rq6, rq7, hoo, ne1, ne2], ?_⟩) | skip
  cases h1 : modelB m
  · repeat (first | rw [kz_o] | rw [kz_r0] | simp -dsimp -implicitDefEqProofs only [go_sem, rq1, rq2, rq3, rq4, rq5, rq6, rq7, hoo, ne1, ne2])
    have hb : newB m p = false := by rw [newB, h1]; rfl
    rw [new_no hb, hb]
    exact ⟨by repeat (first | exact H2.le.refl _ | assumption | apply le_push | refine le_set ?_ (by omega) | refine le_up ?_ (by first | assumption | (simp only [hn_up, hn_push] at *; omega))), [], ⟨_, rfl, zeroEngine⟩, Bl.nil⟩
  repeat (first | rw [kz_o] | rw [kz_r0] | simp -dsimp -implicitDefEqProofs only [go_sem, rq1, rq2, rq3, rq4, rq5, rq6, rq7, hoo, ne1, ne2])
  refine wz_intro l01In_ok ?_
  rintro _ _ ⟨rfl, rfl⟩
  first | (rw [kz_r]; refine ⟨by simp -dsimp -implicitDefEqProofs only [go_sem, rq1, rq2, rq3, rq4, rq5, rq6, rq7, hoo, ne1, ne2], ?_⟩) | skip
  cases h2 : inI p 1 16
  · repeat (first | rw [kz_o] | rw [kz_r0] | simp -dsimp -implicitDefEqProofs only [go_sem, rq1, rq2, rq3, rq4, rq5, rq6, rq7, hoo, ne1, ne2])
    have hb : newB m p = false := by rw [newB, h1, h2]; rfl
    rw [new_no hb, hb]
    exact ⟨by repeat (first | exact H2.le.refl _ | assumption | apply le_push | refine le_set ?_ (by omega) | refine le_up ?_ (by first | assumption | (simp only [hn_up, hn_push] at *; omega))), [], ⟨_, rfl, zeroEngine⟩, Bl.nil⟩
  have hp := inI_tt h2
  have hb : newB m p = true := by rw [newB, h1, h2]; rfl
  have hE : newE m p = ⟨m, ⟨List.replicate p.toNat 0, List.replicate p.toNat []⟩, []⟩ := by unfold newE; rw [if_pos hb]
  rw [hE, hb]
  repeat (first | rw [kz_o] | rw [kz_r0] | simp -dsimp -implicitDefEqProofs only [go_sem, rq1, rq2, rq3, rq4, rq5, rq6, rq7, hoo, ne1, ne2])
  refine dt_intro (.op 0 [] (.op 2 [] (.op 4 [] (.alt (.op 1 [] (.alt (.op 3 [0] (.op 5 [0] (.op 6 [] (.op 7 [] (.op 8 [] (.op 9 [] .nil)))))) (.op 5 [0] (.op 3 [0] (.op 6 [] (.op 7 [] (.op 8 [] (.op 9 [] .nil)))))))) (.alt (.op 3 [0] (.alt (.op 1 [] (.op 5 [0] (.op 6 [] (.op 7 [] (.op 8 [] (.op 9 [] .nil)))))) (.op 5 [0] (.op 6 [] (.op 1 [] (.op 7 [] (.op 8 [] (.op 9 [] .nil)))))))) (.op 5 [0] (.alt (.op 1 [] (.op 3 [0] (.op 6 [] (.op 7 [] (.op 8 [] (.op 9 [] .nil)))))) (.op 3 [0] (.op 6 [] (.op 1 [] (.op 7 [] (.op 8 [] (.op 9 [] .nil))))))))))))) (by kernel_rfl) ?_
  repeat (first | rw [kz_o] | rw [kz_r0] | simp -dsimp -implicitDefEqProofs only [go_sem, rq1, rq2, rq3, rq4, rq5, rq6, rq7, hoo, ne1, ne2, hoo, hoo])
  have nz2 : ((hn g .mk) == (n1)) = false := by first | (simp; done) | (simp; omega)
  have nz3 : ((n1) == (hn g .mk)) = false := by first | (simp; done) | (simp; omega)
  have nz4 : ((hn g .mk + 1) == (n1)) = false := by first | (simp; done) | (simp; omega)
  have nz5 : ((n1) == (hn g .mk + 1)) = false := by first | (simp; done) | (simp; omega)
  rw [run_alt]
  refine ⟨?_, ?_⟩
  · repeat (first | rw [kz_o] | rw [kz_r0] | simp -dsimp -implicitDefEqProofs only [go_sem, rq1, rq2, rq3, rq4, rq5, rq6, rq7, hoo, ne1, ne2, nz2, nz3, nz4, nz5, hoo, hoo])
    refine wz_intro (copyModel_new (F := F) (c := m) hs) ?_
    rintro _ g2 ⟨l2, ys2, b2, rfl, o2, bl2⟩
    have n2 := l2.1
    try simp only [hn_push, hn_up] at n2 bl2
    have r0 := l2.2 (hn g .mk) (by first | omega | (simp only [hn_push, hn_set, hn_up]; omega) | (simp only [hn_push, hn_set, hn_up] at *; omega))
    have r1 := l2.2 (hn g .mk + 1) (by first | omega | (simp only [hn_push, hn_set, hn_up]; omega) | (simp only [hn_push, hn_set, hn_up] at *; omega))
    simp -dsimp -implicitDefEqProofs only [go_sem, rq1, rq2, rq3, rq4, rq5, rq6, rq7, hoo, ne1, ne2, nz2, nz3, nz4, nz5, hoo, hoo] at r0 r1
    obtain ⟨b3, s3, b4, s4, b5, s5, b6, s6, b8, s8, b9, s9, b12, s12, b13, s13, rfl, rfl, o3, o4, o5, o6, o8, o9, o12, o13⟩ := invModel o2
    have c3 := OT.cell o3
    have c4 := OT.cell o4
    have c5 := OT.cell o5
    have c6 := OT.cell o6
    have c8 := OT.cell o8
    have c9 := OT.cell o9
    have c12 := OT.cell o12
    have c13 := OT.cell o13
    have bl3 := bl2.split.1
    have bl4 := bl2.split.2.1.split.1
    have bl5 := bl2.split.2.1.split.2.1.split.1
    have bl6 := bl2.split.2.1.split.2.1.split.2.1.split.1
    have bl8 := bl2.split.2.1.split.2.1.split.2.1.split.2.1.split.1
    have bl9 := bl2.split.2.1.split.2.1.split.2.1.split.2.1.split.2.1.split.1
    have bl12 := bl2.split.2.1.split.2.1.split.2.1.split.2.1.split.2.1.split.2.1.split.1
    have bl13 := bl2.split.2.1.split.2.1.split.2.1.split.2.1.split.2.1.split.2.1.split.2.1
    have nz6 : ((hn g .mk) == hn g2 .mk) = false := by first | (simp; done) | (simp; omega)
    have nz7 : ((hn g .mk + 1) == hn g2 .mk) = false := by first | (simp; done) | (simp; omega)
    first | (rw [kz_r]; refine ⟨by simp -dsimp -implicitDefEqProofs only [go_sem, rq1, rq2, rq3, rq4, rq5, rq6, rq7, hoo, ne1, ne2, nz2, nz3, nz4, nz5, nz6, nz7, r0, r1, c3, c4, c5, c6, c8, c9, c12, c13], ?_⟩) | skip
    repeat (first | rw [kz_o] | rw [kz_r0] | simp -dsimp -implicitDefEqProofs only [go_sem, rq1, rq2, rq3, rq4, rq5, rq6, rq7, hoo, ne1, ne2, nz2, nz3, nz4, nz5, nz6, nz7, r0, r1, c3, c4, c5, c6, c8, c9, c12, c13])
    rw [run_alt]
    refine ⟨?_, ?_⟩
    · repeat (first | rw [kz_o] | rw [kz_r0] | simp -dsimp -implicitDefEqProofs only [go_sem, rq1, rq2, rq3, rq4, rq5, rq6, rq7, hoo, ne1, ne2, nz2, nz3, nz4, nz5, nz6, nz7, r0, r1, c3, c4, c5, c6, c8, c9, c12, c13])
      refine make_intro Ai.ty_el27 Ai.ty_zr3 (by decide) ⟨by omega, by have : Ai.most = 1099511627776 := rfl; omega⟩ ?_
      try simp only [hn_push, hn_up]
      have nz8 : ((hn g .mk) == (hn g2 .mk)) = false := by first | (simp; done) | (simp; omega)
      have nz9 : ((hn g2 .mk) == (hn g .mk)) = false := by first | (simp; done) | (simp; omega)
      have nz10 : ((hn g .mk + 1) == (hn g2 .mk)) = false := by first | (simp; done) | (simp; omega)
      have nz11 : ((hn g2 .mk) == (hn g .mk + 1)) = false := by first | (simp; done) | (simp; omega)
      first | (rw [kz_r]; refine ⟨by simp -dsimp -implicitDefEqProofs only [go_sem, rq1, rq2, rq3, rq4, rq5, rq6, rq7, hoo, ne1, ne2, nz2, nz3, nz4, nz5, nz6, nz7, nz8, nz9, nz10, nz11, r0, r1, c3, c4, c5, c6, c8, c9, c12, c13], ?_⟩) | skip
      repeat (first | rw [kz_o] | rw [kz_r0] | simp -dsimp -implicitDefEqProofs only [go_sem, rq1, rq2, rq3, rq4, rq5, rq6, rq7, hoo, ne1, ne2, nz2, nz3, nz4, nz5, nz6, nz7, nz8, nz9, nz10, nz11, r0, r1, c3, c4, c5, c6, c8, c9, c12, c13])
      refine make_intro Ai.ty_el36 Ai.ty_zr171 (by decide) ⟨by omega, by have : Ai.most = 1099511627776 := rfl; omega⟩ ?_
      try simp only [hn_push, hn_up]
      have nz12 : ((hn g .mk) == (hn g2 .mk + 1)) = false := by first | (simp; done) | (simp; omega)
      have nz13 : ((hn g2 .mk + 1) == (hn g .mk)) = false := by first | (simp; done) | (simp; omega)
      have nz14 : ((hn g .mk + 1) == (hn g2 .mk + 1)) = false := by first | (simp; done) | (simp; omega)
      have nz15 : ((hn g2 .mk + 1) == (hn g .mk + 1)) = false := by first | (simp; done) | (simp; omega)
      have nz16 : ((hn g2 .mk) == (hn g2 .mk + 1)) = false := by first | (simp; done) | (simp; omega)
      have nz17 : ((hn g2 .mk + 1) == (hn g2 .mk)) = false := by first | (simp; done) | (simp; omega)
      first | (rw [kz_r]; refine ⟨by simp -dsimp -implicitDefEqProofs only [go_sem, rq1, rq2, rq3, rq4, rq5, rq6, rq7, hoo, ne1, ne2, nz2, nz3, nz4, nz5, nz6, nz7, nz8, nz9, nz10, nz11, nz12, nz13, nz14, nz15, nz16, nz17, r0, r1, c3, c4, c5, c6, c8, c9, c12, c13], ?_⟩) | skip
      repeat (first | rw [kz_o] | rw [kz_r0] | simp -dsimp -implicitDefEqProofs only [go_sem, rq1, rq2, rq3, rq4, rq5, rq6, rq7, hoo, ne1, ne2, nz2, nz3, nz4, nz5, nz6, nz7, nz8, nz9, nz10, nz11, nz12, nz13, nz14, nz15, nz16, nz17, r0, r1, c3, c4, c5, c6, c8, c9, c12, c13])
      have hb3 := bl2
      refine ⟨by repeat (first | exact H2.le.refl _ | assumption | exact l2 | apply le_push | refine le_set ?_ (by omega) | refine le_up ?_ (by first | omega | (simp only [hn_push, hn_set, hn_up]; omega) | (simp only [hn_push, hn_set, hn_up] at *; omega)) | refine H2.le.trans ?_ l2), _, ⟨_, rfl, outEngine (c := ⟨m, ⟨List.replicate p.toNat 0, List.replicate p.toNat []⟩, []⟩)
        (by repeat (first | exact o3 | refine OT.setN ?_ bl3 (by omega) | refine OT.pushN ?_ bl3 (by first | omega | (simp only [hn_push, hn_set, hn_up]; omega) | (simp only [hn_push, hn_set, hn_up] at *; omega))))
        (by repeat (first | exact o4 | refine OT.setN ?_ bl4 (by omega) | refine OT.pushN ?_ bl4 (by first | omega | (simp only [hn_push, hn_set, hn_up]; omega) | (simp only [hn_push, hn_set, hn_up] at *; omega))))
        (by repeat (first | exact o5 | refine OT.setN ?_ bl5 (by omega) | refine OT.pushN ?_ bl5 (by first | omega | (simp only [hn_push, hn_set, hn_up]; omega) | (simp only [hn_push, hn_set, hn_up] at *; omega))))
        (by repeat (first | exact o6 | refine OT.setN ?_ bl6 (by omega) | refine OT.pushN ?_ bl6 (by first | omega | (simp only [hn_push, hn_set, hn_up]; omega) | (simp only [hn_push, hn_set, hn_up] at *; omega))))
        (by repeat (first | exact o8 | refine OT.setN ?_ bl8 (by omega) | refine OT.pushN ?_ bl8 (by first | omega | (simp only [hn_push, hn_set, hn_up]; omega) | (simp only [hn_push, hn_set, hn_up] at *; omega))))
        (by repeat (first | exact o9 | refine OT.setN ?_ bl9 (by omega) | refine OT.pushN ?_ bl9 (by first | omega | (simp only [hn_push, hn_set, hn_up]; omega) | (simp only [hn_push, hn_set, hn_up] at *; omega))))
        (by repeat (first | exact o12 | refine OT.setN ?_ bl12 (by omega) | refine OT.pushN ?_ bl12 (by first | omega | (simp only [hn_push, hn_set, hn_up]; omega) | (simp only [hn_push, hn_set, hn_up] at *; omega))))
        (by repeat (first | exact o13 | refine OT.setN ?_ bl13 (by omega) | refine OT.pushN ?_ bl13 (by first | omega | (simp only [hn_push, hn_set, hn_up]; omega) | (simp only [hn_push, hn_set, hn_up] at *; omega))))
        (make_ints (b := hn g2 .mk) (by simp -dsimp -implicitDefEqProofs only [go_sem, rq1, rq2, rq3, rq4, rq5, rq6, rq7, hoo, ne1, ne2, nz2, nz3, nz4, nz5, nz6, nz7, nz8, nz9, nz10, nz11, nz12, nz13, nz14, nz15, nz16, nz17, r0, r1, c3, c4, c5, c6, c8, c9, c12, c13]))
        (make_pages (b := hn g2 .mk + 1) (by simp -dsimp -implicitDefEqProofs only [go_sem, rq1, rq2, rq3, rq4, rq5, rq6, rq7, hoo, ne1, ne2, nz2, nz3, nz4, nz5, nz6, nz7, nz8, nz9, nz10, nz11, nz12, nz13, nz14, nz15, nz16, nz17, r0, r1, c3, c4, c5, c6, c8, c9, c12, c13]))
        OT.nil⟩, ?_⟩
      simp only [hn_push, hn_set]
      have hA := Bl.two (x := hn g2 .mk) (y := hn g2 .mk + 1) bl2 (by omega) (by omega) (by omega) (N' := hn g .mk) (M' := hn g2 .mk + 1 + 1) (by omega) (by omega) (by omega) (by omega)
      simpa only [List.append_assoc, List.cons_append, List.nil_append] using hA
    repeat (first | rw [kz_o] | rw [kz_r0] | simp -dsimp -implicitDefEqProofs only [go_sem, rq1, rq2, rq3, rq4, rq5, rq6, rq7, hoo, ne1, ne2, nz2, nz3, nz4, nz5, nz6, nz7, r0, r1, c3, c4, c5, c6, c8, c9, c12, c13])
    refine make_intro Ai.ty_el36 Ai.ty_zr171 (by decide) ⟨by omega, by have : Ai.most = 1099511627776 := rfl; omega⟩ ?_
    try simp only [hn_push, hn_up]
    have nz8 : ((hn g .mk) == (hn g2 .mk)) = false := by first | (simp; done) | (simp; omega)
    have nz9 : ((hn g2 .mk) == (hn g .mk)) = false := by first | (simp; done) | (simp; omega)
    have nz10 : ((hn g .mk + 1) == (hn g2 .mk)) = false := by first | (simp; done) | (simp; omega)
    have nz11 : ((hn g2 .mk) == (hn g .mk + 1)) = false := by first | (simp; done) | (simp; omega)
    first | (rw [kz_r]; refine ⟨by simp -dsimp -implicitDefEqProofs only [go_sem, rq1, rq2, rq3, rq4, rq5, rq6, rq7, hoo, ne1, ne2, nz2, nz3, nz4, nz5, nz6, nz7, nz8, nz9, nz10, nz11, r0, r1, c3, c4, c5, c6, c8, c9, c12, c13], ?_⟩) | skip
    repeat (first | rw [kz_o] | rw [kz_r0] | simp -dsimp -implicitDefEqProofs only [go_sem, rq1, rq2, rq3, rq4, rq5, rq6, rq7, hoo, ne1, ne2, nz2, nz3, nz4, nz5, nz6, nz7, nz8, nz9, nz10, nz11, r0, r1, c3, c4, c5, c6, c8, c9, c12, c13])
    refine make_intro Ai.ty_el27 Ai.ty_zr3 (by decide) ⟨by omega, by have : Ai.most = 1099511627776 := rfl; omega⟩ ?_
    try simp only [hn_push, hn_up]
    have nz12 : ((hn g .mk) == (hn g2 .mk + 1)) = false := by first | (simp; done) | (simp; omega)
    have nz13 : ((hn g2 .mk + 1) == (hn g .mk)) = false := by first | (simp; done) | (simp; omega)
    have nz14 : ((hn g .mk + 1) == (hn g2 .mk + 1)) = false := by first | (simp; done) | (simp; omega)
    have nz15 : ((hn g2 .mk + 1) == (hn g .mk + 1)) = false := by first | (simp; done) | (simp; omega)
    have nz16 : ((hn g2 .mk) == (hn g2 .mk + 1)) = false := by first | (simp; done) | (simp; omega)
    have nz17 : ((hn g2 .mk + 1) == (hn g2 .mk)) = false := by first | (simp; done) | (simp; omega)
    first | (rw [kz_r]; refine ⟨by simp -dsimp -implicitDefEqProofs only [go_sem, rq1, rq2, rq3, rq4, rq5, rq6, rq7, hoo, ne1, ne2, nz2, nz3, nz4, nz5, nz6, nz7, nz8, nz9, nz10, nz11, nz12, nz13, nz14, nz15, nz16, nz17, r0, r1, c3, c4, c5, c6, c8, c9, c12, c13], ?_⟩) | skip
    repeat (first | rw [kz_o] | rw [kz_r0] | simp -dsimp -implicitDefEqProofs only [go_sem, rq1, rq2, rq3, rq4, rq5, rq6, rq7, hoo, ne1, ne2, nz2, nz3, nz4, nz5, nz6, nz7, nz8, nz9, nz10, nz11, nz12, nz13, nz14, nz15, nz16, nz17, r0, r1, c3, c4, c5, c6, c8, c9, c12, c13])
    have hb3 := bl2
    refine ⟨by repeat (first | exact H2.le.refl _ | assumption | exact l2 | apply le_push | refine le_set ?_ (by omega) | refine le_up ?_ (by first | omega | (simp only [hn_push, hn_set, hn_up]; omega) | (simp only [hn_push, hn_set, hn_up] at *; omega)) | refine H2.le.trans ?_ l2), _, ⟨_, rfl, outEngine (c := ⟨m, ⟨List.replicate p.toNat 0, List.replicate p.toNat []⟩, []⟩)
      (by repeat (first | exact o3 | refine OT.setN ?_ bl3 (by omega) | refine OT.pushN ?_ bl3 (by first | omega | (simp only [hn_push, hn_set, hn_up]; omega) | (simp only [hn_push, hn_set, hn_up] at *; omega))))
      (by repeat (first | exact o4 | refine OT.setN ?_ bl4 (by omega) | refine OT.pushN ?_ bl4 (by first | omega | (simp only [hn_push, hn_set, hn_up]; omega) | (simp only [hn_push, hn_set, hn_up] at *; omega))))
      (by repeat (first | exact o5 | refine OT.setN ?_ bl5 (by omega) | refine OT.pushN ?_ bl5 (by first | omega | (simp only [hn_push, hn_set, hn_up]; omega) | (simp only [hn_push, hn_set, hn_up] at *; omega))))
      (by repeat (first | exact o6 | refine OT.setN ?_ bl6 (by omega) | refine OT.pushN ?_ bl6 (by first | omega | (simp only [hn_push, hn_set, hn_up]; omega) | (simp only [hn_push, hn_set, hn_up] at *; omega))))
      (by repeat (first | exact o8 | refine OT.setN ?_ bl8 (by omega) | refine OT.pushN ?_ bl8 (by first | omega | (simp only [hn_push, hn_set, hn_up]; omega) | (simp only [hn_push, hn_set, hn_up] at *; omega))))
      (by repeat (first | exact o9 | refine OT.setN ?_ bl9 (by omega) | refine OT.pushN ?_ bl9 (by first | omega | (simp only [hn_push, hn_set, hn_up]; omega) | (simp only [hn_push, hn_set, hn_up] at *; omega))))
      (by repeat (first | exact o12 | refine OT.setN ?_ bl12 (by omega) | refine OT.pushN ?_ bl12 (by first | omega | (simp only [hn_push, hn_set, hn_up]; omega) | (simp only [hn_push, hn_set, hn_up] at *; omega))))
      (by repeat (first | exact o13 | refine OT.setN ?_ bl13 (by omega) | refine OT.pushN ?_ bl13 (by first | omega | (simp only [hn_push, hn_set, hn_up]; omega) | (simp only [hn_push, hn_set, hn_up] at *; omega))))
      (make_ints (b := hn g2 .mk + 1) (by simp -dsimp -implicitDefEqProofs only [go_sem, rq1, rq2, rq3, rq4, rq5, rq6, rq7, hoo, ne1, ne2, nz2, nz3, nz4, nz5, nz6, nz7, nz8, nz9, nz10, nz11, nz12, nz13, nz14, nz15, nz16, nz17, r0, r1, c3, c4, c5, c6, c8, c9, c12, c13]))
      (make_pages (b := hn g2 .mk) (by simp -dsimp -implicitDefEqProofs only [go_sem, rq1, rq2, rq3, rq4, rq5, rq6, rq7, hoo, ne1, ne2, nz2, nz3, nz4, nz5, nz6, nz7, nz8, nz9, nz10, nz11, nz12, nz13, nz14, nz15, nz16, nz17, r0, r1, c3, c4, c5, c6, c8, c9, c12, c13]))
      OT.nil⟩, ?_⟩
    simp only [hn_push, hn_set]
    have hA := Bl.two (x := hn g2 .mk + 1) (y := hn g2 .mk) bl2 (by omega) (by omega) (by omega) (N' := hn g .mk) (M' := hn g2 .mk + 1 + 1) (by omega) (by omega) (by omega) (by omega)
    simpa only [List.append_assoc, List.cons_append, List.nil_append] using hA
  rw [run_alt]
  refine ⟨?_, ?_⟩
  · repeat (first | rw [kz_o] | rw [kz_r0] | simp -dsimp -implicitDefEqProofs only [go_sem, rq1, rq2, rq3, rq4, rq5, rq6, rq7, hoo, ne1, ne2, nz2, nz3, nz4, nz5, hoo, hoo])
    refine make_intro Ai.ty_el27 Ai.ty_zr3 (by decide) ⟨by omega, by have : Ai.most = 1099511627776 := rfl; omega⟩ ?_
    try simp only [hn_push, hn_up]
    have nz6 : ((hn g .mk) == (n1)) = false := by first | (simp; done) | (simp; omega)
    have nz7 : ((n1) == (hn g .mk)) = false := by first | (simp; done) | (simp; omega)
    have nz8 : ((hn g .mk + 1) == (n1)) = false := by first | (simp; done) | (simp; omega)
    have nz9 : ((n1) == (hn g .mk + 1)) = false := by first | (simp; done) | (simp; omega)
    first | (rw [kz_r]; refine ⟨by simp -dsimp -implicitDefEqProofs only [go_sem, rq1, rq2, rq3, rq4, rq5, rq6, rq7, hoo, ne1, ne2, nz2, nz3, nz4, nz5, nz6, nz7, nz8, nz9, hoo, hoo], ?_⟩) | skip
    repeat (first | rw [kz_o] | rw [kz_r0] | simp -dsimp -implicitDefEqProofs only [go_sem, rq1, rq2, rq3, rq4, rq5, rq6, rq7, hoo, ne1, ne2, nz2, nz3, nz4, nz5, nz6, nz7, nz8, nz9, hoo, hoo])
    rw [run_alt]
    refine ⟨?_, ?_⟩
    · repeat (first | rw [kz_o] | rw [kz_r0] | simp -dsimp -implicitDefEqProofs only [go_sem, rq1, rq2, rq3, rq4, rq5, rq6, rq7, hoo, ne1, ne2, nz2, nz3, nz4, nz5, nz6, nz7, nz8, nz9, hoo, hoo])
      refine wz_intro (copyModel_new (F := F) (c := m) hs) ?_
      rintro _ g2 ⟨l2, ys2, b2, rfl, o2, bl2⟩
      have n2 := l2.1
      try simp only [hn_push, hn_up] at n2 bl2
      have r0 := l2.2 (hn g .mk) (by first | omega | (simp only [hn_push, hn_set, hn_up]; omega) | (simp only [hn_push, hn_set, hn_up] at *; omega))
      have r1 := l2.2 (hn g .mk + 1) (by first | omega | (simp only [hn_push, hn_set, hn_up]; omega) | (simp only [hn_push, hn_set, hn_up] at *; omega))
      have r2 := l2.2 (n1) (by first | omega | (simp only [hn_push, hn_set, hn_up]; omega) | (simp only [hn_push, hn_set, hn_up] at *; omega))
      simp -dsimp -implicitDefEqProofs only [go_sem, rq1, rq2, rq3, rq4, rq5, rq6, rq7, hoo, ne1, ne2, nz2, nz3, nz4, nz5, nz6, nz7, nz8, nz9, hoo, hoo] at r0 r1 r2
      obtain ⟨b3, s3, b4, s4, b5, s5, b6, s6, b8, s8, b9, s9, b12, s12, b13, s13, rfl, rfl, o3, o4, o5, o6, o8, o9, o12, o13⟩ := invModel o2
      have c3 := OT.cell o3
      have c4 := OT.cell o4
      have c5 := OT.cell o5
      have c6 := OT.cell o6
      have c8 := OT.cell o8
      have c9 := OT.cell o9
      have c12 := OT.cell o12
      have c13 := OT.cell o13
      have bl3 := bl2.split.1
      have bl4 := bl2.split.2.1.split.1
      have bl5 := bl2.split.2.1.split.2.1.split.1
      have bl6 := bl2.split.2.1.split.2.1.split.2.1.split.1
      have bl8 := bl2.split.2.1.split.2.1.split.2.1.split.2.1.split.1
      have bl9 := bl2.split.2.1.split.2.1.split.2.1.split.2.1.split.2.1.split.1
      have bl12 := bl2.split.2.1.split.2.1.split.2.1.split.2.1.split.2.1.split.2.1.split.1
      have bl13 := bl2.split.2.1.split.2.1.split.2.1.split.2.1.split.2.1.split.2.1.split.2.1
      have nz10 : ((hn g .mk) == hn g2 .mk) = false := by first | (simp; done) | (simp; omega)
      have nz11 : ((hn g .mk + 1) == hn g2 .mk) = false := by first | (simp; done) | (simp; omega)
      have nz12 : ((n1) == hn g2 .mk) = false := by first | (simp; done) | (simp; omega)
      first | (rw [kz_r]; refine ⟨by simp -dsimp -implicitDefEqProofs only [go_sem, rq1, rq2, rq3, rq4, rq5, rq6, rq7, hoo, ne1, ne2, nz2, nz3, nz4, nz5, nz6, nz7, nz8, nz9, nz10, nz11, nz12, r0, r1, r2, c3, c4, c5, c6, c8, c9, c12, c13], ?_⟩) | skip
      repeat (first | rw [kz_o] | rw [kz_r0] | simp -dsimp -implicitDefEqProofs only [go_sem, rq1, rq2, rq3, rq4, rq5, rq6, rq7, hoo, ne1, ne2, nz2, nz3, nz4, nz5, nz6, nz7, nz8, nz9, nz10, nz11, nz12, r0, r1, r2, c3, c4, c5, c6, c8, c9, c12, c13])
      refine make_intro Ai.ty_el36 Ai.ty_zr171 (by decide) ⟨by omega, by have : Ai.most = 1099511627776 := rfl; omega⟩ ?_
      try simp only [hn_push, hn_up]
      have nz13 : ((hn g .mk) == (hn g2 .mk)) = false := by first | (simp; done) | (simp; omega)
      have nz14 : ((hn g2 .mk) == (hn g .mk)) = false := by first | (simp; done) | (simp; omega)
      have nz15 : ((hn g .mk + 1) == (hn g2 .mk)) = false := by first | (simp; done) | (simp; omega)
      have nz16 : ((hn g2 .mk) == (hn g .mk + 1)) = false := by first | (simp; done) | (simp; omega)
      have nz17 : ((n1) == (hn g2 .mk)) = false := by first | (simp; done) | (simp; omega)
      have nz18 : ((hn g2 .mk) == (n1)) = false := by first | (simp; done) | (simp; omega)
      first | (rw [kz_r]; refine ⟨by simp -dsimp -implicitDefEqProofs only [go_sem, rq1, rq2, rq3, rq4, rq5, rq6, rq7, hoo, ne1, ne2, nz2, nz3, nz4, nz5, nz6, nz7, nz8, nz9, nz10, nz11, nz12, nz13, nz14, nz15, nz16, nz17, nz18, r0, r1, r2, c3, c4, c5, c6, c8, c9, c12, c13], ?_⟩) | skip
      repeat (first | rw [kz_o] | rw [kz_r0] | simp -dsimp -implicitDefEqProofs only [go_sem, rq1, rq2, rq3, rq4, rq5, rq6, rq7, hoo, ne1, ne2, nz2, nz3, nz4, nz5, nz6, nz7, nz8, nz9, nz10, nz11, nz12, nz13, nz14, nz15, nz16, nz17, nz18, r0, r1, r2, c3, c4, c5, c6, c8, c9, c12, c13])
      have hb3 := bl2
      refine ⟨by repeat (first | exact H2.le.refl _ | assumption | exact l2 | apply le_push | refine le_set ?_ (by omega) | refine le_up ?_ (by first | omega | (simp only [hn_push, hn_set, hn_up]; omega) | (simp only [hn_push, hn_set, hn_up] at *; omega)) | refine H2.le.trans ?_ l2), _, ⟨_, rfl, outEngine (c := ⟨m, ⟨List.replicate p.toNat 0, List.replicate p.toNat []⟩, []⟩)
        (by repeat (first | exact o3 | refine OT.setN ?_ bl3 (by omega) | refine OT.pushN ?_ bl3 (by first | omega | (simp only [hn_push, hn_set, hn_up]; omega) | (simp only [hn_push, hn_set, hn_up] at *; omega))))
        (by repeat (first | exact o4 | refine OT.setN ?_ bl4 (by omega) | refine OT.pushN ?_ bl4 (by first | omega | (simp only [hn_push, hn_set, hn_up]; omega) | (simp only [hn_push, hn_set, hn_up] at *; omega))))
        (by repeat (first | exact o5 | refine OT.setN ?_ bl5 (by omega) | refine OT.pushN ?_ bl5 (by first | omega | (simp only [hn_push, hn_set, hn_up]; omega) | (simp only [hn_push, hn_set, hn_up] at *; omega))))
        (by repeat (first | exact o6 | refine OT.setN ?_ bl6 (by omega) | refine OT.pushN ?_ bl6 (by first | omega | (simp only [hn_push, hn_set, hn_up]; omega) | (simp only [hn_push, hn_set, hn_up] at *; omega))))
        (by repeat (first | exact o8 | refine OT.setN ?_ bl8 (by omega) | refine OT.pushN ?_ bl8 (by first | omega | (simp only [hn_push, hn_set, hn_up]; omega) | (simp only [hn_push, hn_set, hn_up] at *; omega))))
        (by repeat (first | exact o9 | refine OT.setN ?_ bl9 (by omega) | refine OT.pushN ?_ bl9 (by first | omega | (simp only [hn_push, hn_set, hn_up]; omega) | (simp only [hn_push, hn_set, hn_up] at *; omega))))
        (by repeat (first | exact o12 | refine OT.setN ?_ bl12 (by omega) | refine OT.pushN ?_ bl12 (by first | omega | (simp only [hn_push, hn_set, hn_up]; omega) | (simp only [hn_push, hn_set, hn_up] at *; omega))))
        (by repeat (first | exact o13 | refine OT.setN ?_ bl13 (by omega) | refine OT.pushN ?_ bl13 (by first | omega | (simp only [hn_push, hn_set, hn_up]; omega) | (simp only [hn_push, hn_set, hn_up] at *; omega))))
        (make_ints (b := n1) (by simp -dsimp -implicitDefEqProofs only [go_sem, rq1, rq2, rq3, rq4, rq5, rq6, rq7, hoo, ne1, ne2, nz2, nz3, nz4, nz5, nz6, nz7, nz8, nz9, nz10, nz11, nz12, nz13, nz14, nz15, nz16, nz17, nz18, r0, r1, r2, c3, c4, c5, c6, c8, c9, c12, c13]))
        (make_pages (b := hn g2 .mk) (by simp -dsimp -implicitDefEqProofs only [go_sem, rq1, rq2, rq3, rq4, rq5, rq6, rq7, hoo, ne1, ne2, nz2, nz3, nz4, nz5, nz6, nz7, nz8, nz9, nz10, nz11, nz12, nz13, nz14, nz15, nz16, nz17, nz18, r0, r1, r2, c3, c4, c5, c6, c8, c9, c12, c13]))
        OT.nil⟩, ?_⟩
      simp only [hn_push, hn_set]
      have hA := Bl.two (x := n1) (y := hn g2 .mk) bl2 (by omega) (by omega) (by omega) (N' := hn g .mk) (M' := hn g2 .mk + 1) (by omega) (by omega) (by omega) (by omega)
      simpa only [List.append_assoc, List.cons_append, List.nil_append] using hA
    repeat (first | rw [kz_o] | rw [kz_r0] | simp -dsimp -implicitDefEqProofs only [go_sem, rq1, rq2, rq3, rq4, rq5, rq6, rq7, hoo, ne1, ne2, nz2, nz3, nz4, nz5, nz6, nz7, nz8, nz9, hoo, hoo])
    refine make_intro Ai.ty_el36 Ai.ty_zr171 (by decide) ⟨by omega, by have : Ai.most = 1099511627776 := rfl; omega⟩ ?_
    try simp only [hn_push, hn_up]
    have nz10 : ((hn g .mk) == (n1 + 1)) = false := by first | (simp; done) | (simp; omega)
    have nz11 : ((n1 + 1) == (hn g .mk)) = false := by first | (simp; done) | (simp; omega)
    have nz12 : ((hn g .mk + 1) == (n1 + 1)) = false := by first | (simp; done) | (simp; omega)
    have nz13 : ((n1 + 1) == (hn g .mk + 1)) = false := by first | (simp; done) | (simp; omega)
    have nz14 : ((n1) == (n1 + 1)) = false := by first | (simp; done) | (simp; omega)
    have nz15 : ((n1 + 1) == (n1)) = false := by first | (simp; done) | (simp; omega)
    first | (rw [kz_r]; refine ⟨by simp -dsimp -implicitDefEqProofs only [go_sem, rq1, rq2, rq3, rq4, rq5, rq6, rq7, hoo, ne1, ne2, nz2, nz3, nz4, nz5, nz6, nz7, nz8, nz9, nz10, nz11, nz12, nz13, nz14, nz15, hoo, hoo], ?_⟩) | skip
    repeat (first | rw [kz_o] | rw [kz_r0] | simp -dsimp -implicitDefEqProofs only [go_sem, rq1, rq2, rq3, rq4, rq5, rq6, rq7, hoo, ne1, ne2, nz2, nz3, nz4, nz5, nz6, nz7, nz8, nz9, nz10, nz11, nz12, nz13, nz14, nz15, hoo, hoo])
    refine wz_intro (copyModel_new (F := F) (c := m) hs) ?_
    rintro _ g2 ⟨l2, ys2, b2, rfl, o2, bl2⟩
    have n2 := l2.1
    try simp only [hn_push, hn_up] at n2 bl2
    have r0 := l2.2 (hn g .mk) (by first | omega | (simp only [hn_push, hn_set, hn_up]; omega) | (simp only [hn_push, hn_set, hn_up] at *; omega))
    have r1 := l2.2 (hn g .mk + 1) (by first | omega | (simp only [hn_push, hn_set, hn_up]; omega) | (simp only [hn_push, hn_set, hn_up] at *; omega))
    have r2 := l2.2 (n1) (by first | omega | (simp only [hn_push, hn_set, hn_up]; omega) | (simp only [hn_push, hn_set, hn_up] at *; omega))
    have r3 := l2.2 (n1 + 1) (by first | omega | (simp only [hn_push, hn_set, hn_up]; omega) | (simp only [hn_push, hn_set, hn_up] at *; omega))
    simp -dsimp -implicitDefEqProofs only [go_sem, rq1, rq2, rq3, rq4, rq5, rq6, rq7, hoo, ne1, ne2, nz2, nz3, nz4, nz5, nz6, nz7, nz8, nz9, nz10, nz11, nz12, nz13, nz14, nz15, hoo, hoo] at r0 r1 r2 r3
    obtain ⟨b3, s3, b4, s4, b5, s5, b6, s6, b8, s8, b9, s9, b12, s12, b13, s13, rfl, rfl, o3, o4, o5, o6, o8, o9, o12, o13⟩ := invModel o2
    have c3 := OT.cell o3
    have c4 := OT.cell o4
    have c5 := OT.cell o5
    have c6 := OT.cell o6
    have c8 := OT.cell o8
    have c9 := OT.cell o9
    have c12 := OT.cell o12
    have c13 := OT.cell o13
    have bl3 := bl2.split.1
    have bl4 := bl2.split.2.1.split.1
    have bl5 := bl2.split.2.1.split.2.1.split.1
    have bl6 := bl2.split.2.1.split.2.1.split.2.1.split.1
    have bl8 := bl2.split.2.1.split.2.1.split.2.1.split.2.1.split.1
    have bl9 := bl2.split.2.1.split.2.1.split.2.1.split.2.1.split.2.1.split.1
    have bl12 := bl2.split.2.1.split.2.1.split.2.1.split.2.1.split.2.1.split.2.1.split.1
    have bl13 := bl2.split.2.1.split.2.1.split.2.1.split.2.1.split.2.1.split.2.1.split.2.1
    have nz16 : ((hn g .mk) == hn g2 .mk) = false := by first | (simp; done) | (simp; omega)
    have nz17 : ((hn g .mk + 1) == hn g2 .mk) = false := by first | (simp; done) | (simp; omega)
    have nz18 : ((n1) == hn g2 .mk) = false := by first | (simp; done) | (simp; omega)
    have nz19 : ((n1 + 1) == hn g2 .mk) = false := by first | (simp; done) | (simp; omega)
    first | (rw [kz_r]; refine ⟨by simp -dsimp -implicitDefEqProofs only [go_sem, rq1, rq2, rq3, rq4, rq5, rq6, rq7, hoo, ne1, ne2, nz2, nz3, nz4, nz5, nz6, nz7, nz8, nz9, nz10, nz11, nz12, nz13, nz14, nz15, nz16, nz17, nz18, nz19, r0, r1, r2, r3, c3, c4, c5, c6, c8, c9, c12, c13], ?_⟩) | skip
    repeat (first | rw [kz_o] | rw [kz_r0] | simp -dsimp -implicitDefEqProofs only [go_sem, rq1, rq2, rq3, rq4, rq5, rq6, rq7, hoo, ne1, ne2, nz2, nz3, nz4, nz5, nz6, nz7, nz8, nz9, nz10, nz11, nz12, nz13, nz14, nz15, nz16, nz17, nz18, nz19, r0, r1, r2, r3, c3, c4, c5, c6, c8, c9, c12, c13])
    have hb3 := bl2
    refine ⟨by repeat (first | exact H2.le.refl _ | assumption | exact l2 | apply le_push | refine le_set ?_ (by omega) | refine le_up ?_ (by first | omega | (simp only [hn_push, hn_set, hn_up]; omega) | (simp only [hn_push, hn_set, hn_up] at *; omega)) | refine H2.le.trans ?_ l2), _, ⟨_, rfl, outEngine (c := ⟨m, ⟨List.replicate p.toNat 0, List.replicate p.toNat []⟩, []⟩)
      (by repeat (first | exact o3 | refine OT.setN ?_ bl3 (by omega) | refine OT.pushN ?_ bl3 (by first | omega | (simp only [hn_push, hn_set, hn_up]; omega) | (simp only [hn_push, hn_set, hn_up] at *; omega))))
      (by repeat (first | exact o4 | refine OT.setN ?_ bl4 (by omega) | refine OT.pushN ?_ bl4 (by first | omega | (simp only [hn_push, hn_set, hn_up]; omega) | (simp only [hn_push, hn_set, hn_up] at *; omega))))
      (by repeat (first | exact o5 | refine OT.setN ?_ bl5 (by omega) | refine OT.pushN ?_ bl5 (by first | omega | (simp only [hn_push, hn_set, hn_up]; omega) | (simp only [hn_push, hn_set, hn_up] at *; omega))))
      (by repeat (first | exact o6 | refine OT.setN ?_ bl6 (by omega) | refine OT.pushN ?_ bl6 (by first | omega | (simp only [hn_push, hn_set, hn_up]; omega) | (simp only [hn_push, hn_set, hn_up] at *; omega))))
      (by repeat (first | exact o8 | refine OT.setN ?_ bl8 (by omega) | refine OT.pushN ?_ bl8 (by first | omega | (simp only [hn_push, hn_set, hn_up]; omega) | (simp only [hn_push, hn_set, hn_up] at *; omega))))
      (by repeat (first | exact o9 | refine OT.setN ?_ bl9 (by omega) | refine OT.pushN ?_ bl9 (by first | omega | (simp only [hn_push, hn_set, hn_up]; omega) | (simp only [hn_push, hn_set, hn_up] at *; omega))))
      (by repeat (first | exact o12 | refine OT.setN ?_ bl12 (by omega) | refine OT.pushN ?_ bl12 (by first | omega | (simp only [hn_push, hn_set, hn_up]; omega) | (simp only [hn_push, hn_set, hn_up] at *; omega))))
      (by repeat (first | exact o13 | refine OT.setN ?_ bl13 (by omega) | refine OT.pushN ?_ bl13 (by first | omega | (simp only [hn_push, hn_set, hn_up]; omega) | (simp only [hn_push, hn_set, hn_up] at *; omega))))
      (make_ints (b := n1) (by simp -dsimp -implicitDefEqProofs only [go_sem, rq1, rq2, rq3, rq4, rq5, rq6, rq7, hoo, ne1, ne2, nz2, nz3, nz4, nz5, nz6, nz7, nz8, nz9, nz10, nz11, nz12, nz13, nz14, nz15, nz16, nz17, nz18, nz19, r0, r1, r2, r3, c3, c4, c5, c6, c8, c9, c12, c13]))
      (make_pages (b := n1 + 1) (by simp -dsimp -implicitDefEqProofs only [go_sem, rq1, rq2, rq3, rq4, rq5, rq6, rq7, hoo, ne1, ne2, nz2, nz3, nz4, nz5, nz6, nz7, nz8, nz9, nz10, nz11, nz12, nz13, nz14, nz15, nz16, nz17, nz18, nz19, r0, r1, r2, r3, c3, c4, c5, c6, c8, c9, c12, c13]))
      OT.nil⟩, ?_⟩
    simp only [hn_push, hn_set]
    have hA := Bl.two (x := n1) (y := n1 + 1) bl2 (by omega) (by omega) (by omega) (N' := hn g .mk) (M' := hn g2 .mk) (by omega) (by omega) (by omega) (by omega)
    simpa only [List.append_assoc, List.cons_append, List.nil_append] using hA
  repeat (first | rw [kz_o] | rw [kz_r0] | simp -dsimp -implicitDefEqProofs only [go_sem, rq1, rq2, rq3, rq4, rq5, rq6, rq7, hoo, ne1, ne2, nz2, nz3, nz4, nz5, hoo, hoo])
  refine make_intro Ai.ty_el36 Ai.ty_zr171 (by decide) ⟨by omega, by have : Ai.most = 1099511627776 := rfl; omega⟩ ?_
  try simp only [hn_push, hn_up]
  have nz6 : ((hn g .mk) == (n1)) = false := by first | (simp; done) | (simp; omega)
  have nz7 : ((n1) == (hn g .mk)) = false := by first | (simp; done) | (simp; omega)
  have nz8 : ((hn g .mk + 1) == (n1)) = false := by first | (simp; done) | (simp; omega)
  have nz9 : ((n1) == (hn g .mk + 1)) = false := by first | (simp; done) | (simp; omega)
  first | (rw [kz_r]; refine ⟨by simp -dsimp -implicitDefEqProofs only [go_sem, rq1, rq2, rq3, rq4, rq5, rq6, rq7, hoo, ne1, ne2, nz2, nz3, nz4, nz5, nz6, nz7, nz8, nz9, hoo, hoo], ?_⟩) | skip
  repeat (first | rw [kz_o] | rw [kz_r0] | simp -dsimp -implicitDefEqProofs only [go_sem, rq1, rq2, rq3, rq4, rq5, rq6, rq7, hoo, ne1, ne2, nz2, nz3, nz4, nz5, nz6, nz7, nz8, nz9, hoo, hoo])
  rw [run_alt]
  refine ⟨?_, ?_⟩
  · repeat (first | rw [kz_o] | rw [kz_r0] | simp -dsimp -implicitDefEqProofs only [go_sem, rq1, rq2, rq3, rq4, rq5, rq6, rq7, hoo, ne1, ne2, nz2, nz3, nz4, nz5, nz6, nz7, nz8, nz9, hoo, hoo])
    refine wz_intro (copyModel_new (F := F) (c := m) hs) ?_
    rintro _ g2 ⟨l2, ys2, b2, rfl, o2, bl2⟩
    have n2 := l2.1
    try simp only [hn_push, hn_up] at n2 bl2
    have r0 := l2.2 (hn g .mk) (by first | omega | (simp only [hn_push, hn_set, hn_up]; omega) | (simp only [hn_push, hn_set, hn_up] at *; omega))
    have r1 := l2.2 (hn g .mk + 1) (by first | omega | (simp only [hn_push, hn_set, hn_up]; omega) | (simp only [hn_push, hn_set, hn_up] at *; omega))
    have r2 := l2.2 (n1) (by first | omega | (simp only [hn_push, hn_set, hn_up]; omega) | (simp only [hn_push, hn_set, hn_up] at *; omega))
    simp -dsimp -implicitDefEqProofs only [go_sem, rq1, rq2, rq3, rq4, rq5, rq6, rq7, hoo, ne1, ne2, nz2, nz3, nz4, nz5, nz6, nz7, nz8, nz9, hoo, hoo] at r0 r1 r2
    obtain ⟨b3, s3, b4, s4, b5, s5, b6, s6, b8, s8, b9, s9, b12, s12, b13, s13, rfl, rfl, o3, o4, o5, o6, o8, o9, o12, o13⟩ := invModel o2
    have c3 := OT.cell o3
    have c4 := OT.cell o4
    have c5 := OT.cell o5
    have c6 := OT.cell o6
    have c8 := OT.cell o8
    have c9 := OT.cell o9
    have c12 := OT.cell o12
    have c13 := OT.cell o13
    have bl3 := bl2.split.1
    have bl4 := bl2.split.2.1.split.1
    have bl5 := bl2.split.2.1.split.2.1.split.1
    have bl6 := bl2.split.2.1.split.2.1.split.2.1.split.1
    have bl8 := bl2.split.2.1.split.2.1.split.2.1.split.2.1.split.1
    have bl9 := bl2.split.2.1.split.2.1.split.2.1.split.2.1.split.2.1.split.1
    have bl12 := bl2.split.2.1.split.2.1.split.2.1.split.2.1.split.2.1.split.2.1.split.1
    have bl13 := bl2.split.2.1.split.2.1.split.2.1.split.2.1.split.2.1.split.2.1.split.2.1
    have nz10 : ((hn g .mk) == hn g2 .mk) = false := by first | (simp; done) | (simp; omega)
    have nz11 : ((hn g .mk + 1) == hn g2 .mk) = false := by first | (simp; done) | (simp; omega)
    have nz12 : ((n1) == hn g2 .mk) = false := by first | (simp; done) | (simp; omega)
    first | (rw [kz_r]; refine ⟨by simp -dsimp -implicitDefEqProofs only [go_sem, rq1, rq2, rq3, rq4, rq5, rq6, rq7, hoo, ne1, ne2, nz2, nz3, nz4, nz5, nz6, nz7, nz8, nz9, nz10, nz11, nz12, r0, r1, r2, c3, c4, c5, c6, c8, c9, c12, c13], ?_⟩) | skip
    repeat (first | rw [kz_o] | rw [kz_r0] | simp -dsimp -implicitDefEqProofs only [go_sem, rq1, rq2, rq3, rq4, rq5, rq6, rq7, hoo, ne1, ne2, nz2, nz3, nz4, nz5, nz6, nz7, nz8, nz9, nz10, nz11, nz12, r0, r1, r2, c3, c4, c5, c6, c8, c9, c12, c13])
    refine make_intro Ai.ty_el27 Ai.ty_zr3 (by decide) ⟨by omega, by have : Ai.most = 1099511627776 := rfl; omega⟩ ?_
    try simp only [hn_push, hn_up]
    have nz13 : ((hn g .mk) == (hn g2 .mk)) = false := by first | (simp; done) | (simp; omega)
    have nz14 : ((hn g2 .mk) == (hn g .mk)) = false := by first | (simp; done) | (simp; omega)
    have nz15 : ((hn g .mk + 1) == (hn g2 .mk)) = false := by first | (simp; done) | (simp; omega)
    have nz16 : ((hn g2 .mk) == (hn g .mk + 1)) = false := by first | (simp; done) | (simp; omega)
    have nz17 : ((n1) == (hn g2 .mk)) = false := by first | (simp; done) | (simp; omega)
    have nz18 : ((hn g2 .mk) == (n1)) = false := by first | (simp; done) | (simp; omega)
    first | (rw [kz_r]; refine ⟨by simp -dsimp -implicitDefEqProofs only [go_sem, rq1, rq2, rq3, rq4, rq5, rq6, rq7, hoo, ne1, ne2, nz2, nz3, nz4, nz5, nz6, nz7, nz8, nz9, nz10, nz11, nz12, nz13, nz14, nz15, nz16, nz17, nz18, r0, r1, r2, c3, c4, c5, c6, c8, c9, c12, c13], ?_⟩) | skip
    repeat (first | rw [kz_o] | rw [kz_r0] | simp -dsimp -implicitDefEqProofs only [go_sem, rq1, rq2, rq3, rq4, rq5, rq6, rq7, hoo, ne1, ne2, nz2, nz3, nz4, nz5, nz6, nz7, nz8, nz9, nz10, nz11, nz12, nz13, nz14, nz15, nz16, nz17, nz18, r0, r1, r2, c3, c4, c5, c6, c8, c9, c12, c13])
    have hb3 := bl2
    refine ⟨by repeat (first | exact H2.le.refl _ | assumption | exact l2 | apply le_push | refine le_set ?_ (by omega) | refine le_up ?_ (by first | omega | (simp only [hn_push, hn_set, hn_up]; omega) | (simp only [hn_push, hn_set, hn_up] at *; omega)) | refine H2.le.trans ?_ l2), _, ⟨_, rfl, outEngine (c := ⟨m, ⟨List.replicate p.toNat 0, List.replicate p.toNat []⟩, []⟩)
      (by repeat (first | exact o3 | refine OT.setN ?_ bl3 (by omega) | refine OT.pushN ?_ bl3 (by first | omega | (simp only [hn_push, hn_set, hn_up]; omega) | (simp only [hn_push, hn_set, hn_up] at *; omega))))
      (by repeat (first | exact o4 | refine OT.setN ?_ bl4 (by omega) | refine OT.pushN ?_ bl4 (by first | omega | (simp only [hn_push, hn_set, hn_up]; omega) | (simp only [hn_push, hn_set, hn_up] at *; omega))))
      (by repeat (first | exact o5 | refine OT.setN ?_ bl5 (by omega) | refine OT.pushN ?_ bl5 (by first | omega | (simp only [hn_push, hn_set, hn_up]; omega) | (simp only [hn_push, hn_set, hn_up] at *; omega))))
      (by repeat (first | exact o6 | refine OT.setN ?_ bl6 (by omega) | refine OT.pushN ?_ bl6 (by first | omega | (simp only [hn_push, hn_set, hn_up]; omega) | (simp only [hn_push, hn_set, hn_up] at *; omega))))
      (by repeat (first | exact o8 | refine OT.setN ?_ bl8 (by omega) | refine OT.pushN ?_ bl8 (by first | omega | (simp only [hn_push, hn_set, hn_up]; omega) | (simp only [hn_push, hn_set, hn_up] at *; omega))))
      (by repeat (first | exact o9 | refine OT.setN ?_ bl9 (by omega) | refine OT.pushN ?_ bl9 (by first | omega | (simp only [hn_push, hn_set, hn_up]; omega) | (simp only [hn_push, hn_set, hn_up] at *; omega))))
      (by repeat (first | exact o12 | refine OT.setN ?_ bl12 (by omega) | refine OT.pushN ?_ bl12 (by first | omega | (simp only [hn_push, hn_set, hn_up]; omega) | (simp only [hn_push, hn_set, hn_up] at *; omega))))
      (by repeat (first | exact o13 | refine OT.setN ?_ bl13 (by omega) | refine OT.pushN ?_ bl13 (by first | omega | (simp only [hn_push, hn_set, hn_up]; omega) | (simp only [hn_push, hn_set, hn_up] at *; omega))))
      (make_ints (b := hn g2 .mk) (by simp -dsimp -implicitDefEqProofs only [go_sem, rq1, rq2, rq3, rq4, rq5, rq6, rq7, hoo, ne1, ne2, nz2, nz3, nz4, nz5, nz6, nz7, nz8, nz9, nz10, nz11, nz12, nz13, nz14, nz15, nz16, nz17, nz18, r0, r1, r2, c3, c4, c5, c6, c8, c9, c12, c13]))
      (make_pages (b := n1) (by simp -dsimp -implicitDefEqProofs only [go_sem, rq1, rq2, rq3, rq4, rq5, rq6, rq7, hoo, ne1, ne2, nz2, nz3, nz4, nz5, nz6, nz7, nz8, nz9, nz10, nz11, nz12, nz13, nz14, nz15, nz16, nz17, nz18, r0, r1, r2, c3, c4, c5, c6, c8, c9, c12, c13]))
      OT.nil⟩, ?_⟩
    simp only [hn_push, hn_set]
    have hA := Bl.two (x := hn g2 .mk) (y := n1) bl2 (by omega) (by omega) (by omega) (N' := hn g .mk) (M' := hn g2 .mk + 1) (by omega) (by omega) (by omega) (by omega)
    simpa only [List.append_assoc, List.cons_append, List.nil_append] using hA
  repeat (first | rw [kz_o] | rw [kz_r0] | simp -dsimp -implicitDefEqProofs only [go_sem, rq1, rq2, rq3, rq4, rq5, rq6, rq7, hoo, ne1, ne2, nz2, nz3, nz4, nz5, nz6, nz7, nz8, nz9, hoo, hoo])
  refine make_intro Ai.ty_el27 Ai.ty_zr3 (by decide) ⟨by omega, by have : Ai.most = 1099511627776 := rfl; omega⟩ ?_
  try simp only [hn_push, hn_up]
  have nz10 : ((hn g .mk) == (n1 + 1)) = false := by first | (simp; done) | (simp; omega)
  have nz11 : ((n1 + 1) == (hn g .mk)) = false := by first | (simp; done) | (simp; omega)
  have nz12 : ((hn g .mk + 1) == (n1 + 1)) = false := by first | (simp; done) | (simp; omega)
  have nz13 : ((n1 + 1) == (hn g .mk + 1)) = false := by first | (simp; done) | (simp; omega)
  have nz14 : ((n1) == (n1 + 1)) = false := by first | (simp; done) | (simp; omega)
  have nz15 : ((n1 + 1) == (n1)) = false := by first | (simp; done) | (simp; omega)
  first | (rw [kz_r]; refine ⟨by simp -dsimp -implicitDefEqProofs only [go_sem, rq1, rq2, rq3, rq4, rq5, rq6, rq7, hoo, ne1, ne2, nz2, nz3, nz4, nz5, nz6, nz7, nz8, nz9, nz10, nz11, nz12, nz13, nz14, nz15, hoo, hoo], ?_⟩) | skip
  repeat (first | rw [kz_o] | rw [kz_r0] | simp -dsimp -implicitDefEqProofs only [go_sem, rq1, rq2, rq3, rq4, rq5, rq6, rq7, hoo, ne1, ne2, nz2, nz3, nz4, nz5, nz6, nz7, nz8, nz9, nz10, nz11, nz12, nz13, nz14, nz15, hoo, hoo])
  refine wz_intro (copyModel_new (F := F) (c := m) hs) ?_
  rintro _ g2 ⟨l2, ys2, b2, rfl, o2, bl2⟩
  have n2 := l2.1
  try simp only [hn_push, hn_up] at n2 bl2
  have r0 := l2.2 (hn g .mk) (by first | omega | (simp only [hn_push, hn_set, hn_up]; omega) | (simp only [hn_push, hn_set, hn_up] at *; omega))
  have r1 := l2.2 (hn g .mk + 1) (by first | omega | (simp only [hn_push, hn_set, hn_up]; omega) | (simp only [hn_push, hn_set, hn_up] at *; omega))
  have r2 := l2.2 (n1) (by first | omega | (simp only [hn_push, hn_set, hn_up]; omega) | (simp only [hn_push, hn_set, hn_up] at *; omega))
  have r3 := l2.2 (n1 + 1) (by first | omega | (simp only [hn_push, hn_set, hn_up]; omega) | (simp only [hn_push, hn_set, hn_up] at *; omega))
  simp -dsimp -implicitDefEqProofs only [go_sem, rq1, rq2, rq3, rq4, rq5, rq6, rq7, hoo, ne1, ne2, nz2, nz3, nz4, nz5, nz6, nz7, nz8, nz9, nz10, nz11, nz12, nz13, nz14, nz15, hoo, hoo] at r0 r1 r2 r3
  obtain ⟨b3, s3, b4, s4, b5, s5, b6, s6, b8, s8, b9, s9, b12, s12, b13, s13, rfl, rfl, o3, o4, o5, o6, o8, o9, o12, o13⟩ := invModel o2
  have c3 := OT.cell o3
  have c4 := OT.cell o4
  have c5 := OT.cell o5
  have c6 := OT.cell o6
  have c8 := OT.cell o8
  have c9 := OT.cell o9
  have c12 := OT.cell o12
  have c13 := OT.cell o13
  have bl3 := bl2.split.1
  have bl4 := bl2.split.2.1.split.1
  have bl5 := bl2.split.2.1.split.2.1.split.1
  have bl6 := bl2.split.2.1.split.2.1.split.2.1.split.1
  have bl8 := bl2.split.2.1.split.2.1.split.2.1.split.2.1.split.1
  have bl9 := bl2.split.2.1.split.2.1.split.2.1.split.2.1.split.2.1.split.1
  have bl12 := bl2.split.2.1.split.2.1.split.2.1.split.2.1.split.2.1.split.2.1.split.1
  have bl13 := bl2.split.2.1.split.2.1.split.2.1.split.2.1.split.2.1.split.2.1.split.2.1
  have nz16 : ((hn g .mk) == hn g2 .mk) = false := by first | (simp; done) | (simp; omega)
  have nz17 : ((hn g .mk + 1) == hn g2 .mk) = false := by first | (simp; done) | (simp; omega)
  have nz18 : ((n1) == hn g2 .mk) = false := by first | (simp; done) | (simp; omega)
  have nz19 : ((n1 + 1) == hn g2 .mk) = false := by first | (simp; done) | (simp; omega)
  first | (rw [kz_r]; refine ⟨by simp -dsimp -implicitDefEqProofs only [go_sem, rq1, rq2, rq3, rq4, rq5, rq6, rq7, hoo, ne1, ne2, nz2, nz3, nz4, nz5, nz6, nz7, nz8, nz9, nz10, nz11, nz12, nz13, nz14, nz15, nz16, nz17, nz18, nz19, r0, r1, r2, r3, c3, c4, c5, c6, c8, c9, c12, c13], ?_⟩) | skip
  repeat (first | rw [kz_o] | rw [kz_r0] | simp -dsimp -implicitDefEqProofs only [go_sem, rq1, rq2, rq3, rq4, rq5, rq6, rq7, hoo, ne1, ne2, nz2, nz3, nz4, nz5, nz6, nz7, nz8, nz9, nz10, nz11, nz12, nz13, nz14, nz15, nz16, nz17, nz18, nz19, r0, r1, r2, r3, c3, c4, c5, c6, c8, c9, c12, c13])
  have hb3 := bl2
  refine ⟨by repeat (first | exact H2.le.refl _ | assumption | exact l2 | apply le_push | refine le_set ?_ (by omega) | refine le_up ?_ (by first | omega | (simp only [hn_push, hn_set, hn_up]; omega) | (simp only [hn_push, hn_set, hn_up] at *; omega)) | refine H2.le.trans ?_ l2), _, ⟨_, rfl, outEngine (c := ⟨m, ⟨List.replicate p.toNat 0, List.replicate p.toNat []⟩, []⟩)
    (by repeat (first | exact o3 | refine OT.setN ?_ bl3 (by omega) | refine OT.pushN ?_ bl3 (by first | omega | (simp only [hn_push, hn_set, hn_up]; omega) | (simp only [hn_push, hn_set, hn_up] at *; omega))))
    (by repeat (first | exact o4 | refine OT.setN ?_ bl4 (by omega) | refine OT.pushN ?_ bl4 (by first | omega | (simp only [hn_push, hn_set, hn_up]; omega) | (simp only [hn_push, hn_set, hn_up] at *; omega))))
    (by repeat (first | exact o5 | refine OT.setN ?_ bl5 (by omega) | refine OT.pushN ?_ bl5 (by first | omega | (simp only [hn_push, hn_set, hn_up]; omega) | (simp only [hn_push, hn_set, hn_up] at *; omega))))
    (by repeat (first | exact o6 | refine OT.setN ?_ bl6 (by omega) | refine OT.pushN ?_ bl6 (by first | omega | (simp only [hn_push, hn_set, hn_up]; omega) | (simp only [hn_push, hn_set, hn_up] at *; omega))))
    (by repeat (first | exact o8 | refine OT.setN ?_ bl8 (by omega) | refine OT.pushN ?_ bl8 (by first | omega | (simp only [hn_push, hn_set, hn_up]; omega) | (simp only [hn_push, hn_set, hn_up] at *; omega))))
    (by repeat (first | exact o9 | refine OT.setN ?_ bl9 (by omega) | refine OT.pushN ?_ bl9 (by first | omega | (simp only [hn_push, hn_set, hn_up]; omega) | (simp only [hn_push, hn_set, hn_up] at *; omega))))
    (by repeat (first | exact o12 | refine OT.setN ?_ bl12 (by omega) | refine OT.pushN ?_ bl12 (by first | omega | (simp only [hn_push, hn_set, hn_up]; omega) | (simp only [hn_push, hn_set, hn_up] at *; omega))))
    (by repeat (first | exact o13 | refine OT.setN ?_ bl13 (by omega) | refine OT.pushN ?_ bl13 (by first | omega | (simp only [hn_push, hn_set, hn_up]; omega) | (simp only [hn_push, hn_set, hn_up] at *; omega))))
    (make_ints (b := n1 + 1) (by simp -dsimp -implicitDefEqProofs only [go_sem, rq1, rq2, rq3, rq4, rq5, rq6, rq7, hoo, ne1, ne2, nz2, nz3, nz4, nz5, nz6, nz7, nz8, nz9, nz10, nz11, nz12, nz13, nz14, nz15, nz16, nz17, nz18, nz19, r0, r1, r2, r3, c3, c4, c5, c6, c8, c9, c12, c13]))
    (make_pages (b := n1) (by simp -dsimp -implicitDefEqProofs only [go_sem, rq1, rq2, rq3, rq4, rq5, rq6, rq7, hoo, ne1, ne2, nz2, nz3, nz4, nz5, nz6, nz7, nz8, nz9, nz10, nz11, nz12, nz13, nz14, nz15, nz16, nz17, nz18, nz19, r0, r1, r2, r3, c3, c4, c5, c6, c8, c9, c12, c13]))
    OT.nil⟩, ?_⟩
  simp only [hn_push, hn_set]
  have hA := Bl.two (x := n1 + 1) (y := n1) bl2 (by omega) (by omega) (by omega) (N' := hn g .mk) (M' := hn g2 .mk) (by omega) (by omega) (by omega) (by omega)
  simpa only [List.append_assoc, List.cons_append, List.nil_append] using hA
end Go.Bi
end
