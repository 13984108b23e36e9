/- Own lemmas that the theorem of this claim needs: the abstract machine and walks of functions. -/
import Derived.Test.YtegpkkefbmcddaaGreatQfLawAQ
set_option linter.unusedSimpArgs false
set_option linter.unusedVariables false
open Nat renaming reduceBEq → sQ1, reduceAdd → sQ2, reduceLeDiff → sQ3, reduceMul → sQ4
open Int renaming reduceLE → sQ5, reduceLT → sQ6, reduceBEq → sQ7
section
set_option maxRecDepth 20000
namespace Go.Bi
open Go.Proofs
open Go.Ai (wrap_i64 wrap_u64 wrap_u8 Heap)
variable {W0 : World} {P : Program}
set_option maxHeartbeats 8000000
theorem Wk {s : Int} {g : H2} : A7 Tryz.prog W0 95 [.raw (.int .i64 s)] g (fun v g' => v = .raw (.int .u64 (IntKind.u64.wrap s)) ∧ g' = g) := by
 refine AH [[0], [0]] Tryz.func95 rfl (rs := [.tmp 2]) rfl rfl ?_
 intro wf
 refine zr ?_
 exact ⟨rfl, rfl⟩
theorem Ys {s : Int} {g : H2} : A7 Tryz.prog W0 94 [.raw (.int .i64 s)] g (fun v g' => v = .raw (.int .u64 (IntKind.u64.wrap s)) ∧ g' = g) := by
 refine AH [[0], [0]] Tryz.func94 rfl (rs := [.tmp 2]) rfl rfl ?_
 intro wf
 refine zr ?_
 exact ⟨rfl, rfl⟩
theorem Rs {F F' : Nat → AQ} {m : AM} {c : Ac} {f : AQ} {ts : List Int} {g : H2} (hs : B4 m) (hl : ts.length ≤ 1048576) (hn0 : c.stops.length ≤ 9223372036854775807) :
  A7 Tryz.prog W0 40 [.st (BH F m), .sl f 1 (ints ts), .st (BR F' c)] g (fun x g' => g.le g' ∧ ∃ bs, Rp (.l 1 (ints (HK m ts c (IntKind.u64.wrap c.seed)))) [.bool (Mr m ts c)] x g' bs ∧ Bl (hn g .mk) (hn g' .mk) bs) := by
 refine AH [[0, 1, 2], [1, 3, 5], [8, 10]] Tryz.func40 rfl (rs := [.tmp 6, .tmp 7]) rfl rfl ?_
 intro wf
 have z1 : (hn g .mk == hn g .mk + 1) = false := by simp
 refine zh ?_
 refine AO [(0, []), (1, []), (2, []), (3, []), (4, []), (5, [0, 2]), (6, []), (7, []), (8, []), (9, []), (10, []), (11, []), (12, []), (13, [])] (by kernel_rfl) ?_
 refine DC z1 ?_
 refine AA Wk ?_
 rintro _ _ ⟨rfl, rfl⟩
 refine DC z1 ?_
 refine AA (QK (F := F) (F' := F') hs hl hn0) ?_
 rintro _ g1 ⟨l1, bs, ⟨v, rfl, o⟩, bl⟩
 have c1 := OT.cell o
 refine DC c1 ?_
 exact ⟨(le_push (le_push (H2.le.refl _))).trans l1, bs, ⟨v, rfl, o⟩, bl.wide (by simp only [AB]; omega) (Nat.le_refl _)⟩
inductive bg (p q : Nat → Prop) (g : H2) : List X → List X → Prop
 | nil : bg p q g [] []
 | cons {x y : X} {xs ys : List X} : Fz p q g x y → bg p q g xs ys → bg p q g (x :: xs) (y :: ys)
theorem bg.er {p q : Nat → Prop} {g : H2} : ∀ {xs ys : List X}, bg p q g xs ys → ys.map Bi.er = xs.map Bi.er
 | _, _, .nil => rfl
 | _, _, .cons a b => by simp only [List.map_cons, Fz.er a, b.er]
theorem Hj {g : H2} {b c : Nat} (h : g.get c = none) : (g.kill b).get c = none := by show (if c = b then none else g.get c) = none; rw [h]; split <;> rfl
theorem bg.ok {g : H2} {b : Nat} {h : Heap} (s : S g h) : ∀ {xs ys : List X}, bg (fun c => c = b) (fun _ => True) g xs ys → (∀ x ∈ xs, Ok h g x) → ∀ y ∈ ys, Ok h (g.kill b) y
 | _, _, .nil, _, y, hy => by cases hy
 | _, _, .cons a r, o, y, hy => by
  rcases List.mem_cons.1 hy with rfl | hy
  ·exact a.ok s (fun _ _ hg => Hj hg) (fun c hc => by subst hc; show (if c = c then none else g.get c) = none; rw [if_pos rfl]) (o _ (by simp))
  ·exact r.ok s (fun x hx => o x (by simp [hx])) y hy
theorem A7.give {g : H2} {b : Nat} {f : FuncId} {xs ys : List X} {K : X → H2 → Prop} (hl : bg (fun c => c = b) (fun _ => True) g xs ys) (c : A7 P W0 f ys (g.kill b) K) : A7 P W0 f xs g K := by
 intro h s o
 rw [← hl.er]
 have s1 : S (g.kill b) h := ⟨s.n, fun c k hk => by
  have hk2 : (if c = b then none else g.get c) = some k := hk
  split at hk2
  ·cases hk2
  ·obtain ⟨q1, q2, q3⟩ := s.row c k hk2
   exact ⟨q1, q2, fun x hx => (q3 x hx).mono ⟨Nat.le_refl _, fun _ _ _ => rfl, fun _ _ hg => Hj hg⟩⟩⟩
 refine (c h s1 (hl.ok s o)).mono ?_
 rintro v h' ⟨y, g', rfl, s2, x2, o2, k⟩
 exact ⟨y, g', rfl, s2, ⟨x2.n, fun c hc hg => x2.keep c hc (Hj hg), fun c hc hg => x2.non c hc (Hj hg)⟩, o2, k⟩
theorem aA {g : H2} {b n : Nat} {zs : List Int} {q : Nat → Prop} (h : hg g b .mk = some ⟨1, zs.map cI⟩) (hn0 : n = zs.length) : ∃ f, Fz (fun c => c = b) q g (.raw (.slice (some ⟨b, 0, none⟩) n n)) (.sl f 1 (ints zs)) := by
 subst hn0
 have := Fz.own (p := fun c => c = b) (q := q) (g := g) (b := b) (n := zs.length) (z := 1) (cs := zs.map cI) (cs' := zs.map cI) h rfl (by simp) rfl (fun i hi hi' => by simp only [List.getElem_map, cI]; exact .raw) Jv
 rw [IY] at this
 exact ⟨_, this⟩
theorem ZW {α : Type} {e : α → List T} {z : Nat} (he : Sx e z) {p : Nat → Prop} {g : H2} {b : Nat} {cs : List X} {l : List α} (h : hg g b .mk = some ⟨z, cs⟩) (hc : C9 e z cs l) (hp : p b) : ∃ f, Fz p (fun _ => True) g (.raw (.slice (some ⟨b, 0, none⟩) l.length l.length)) (.sl f z (l.map e)) := by
 have := Fz.own (p := p) (q := fun _ => True) (g := g) (b := b) (n := l.length) (z := z) (cs := cs) (cs' := cs) h hp hc.2.2 rfl (fun i hi hi' => by
  rcases hc.2.1 _ (List.getElem_mem hi) with ⟨n, e⟩ | ⟨f, k, es, e⟩
  ·rw [e]; exact .raw
  ·rw [e]; exact .sl (.sl (Ee _ _))) hc.1
 rw [Hu he] at this
 exact ⟨_, this⟩
theorem XS {F F' : Nat → AQ} {m : AM} {c : Ac} {f : AQ} {ts : List Int} {g : H2} (hs : B4 m) (hl : ts.length ≤ 1048576) (hn0 : c.stops.length ≤ 9223372036854775807) : PW Tryz.prog W0 87 [.st (BH F m), .sl f 1 (ints ts), .st (BR F' c)] g (fun y => y = .raw (.bool (Mr m ts c))) := by
 refine PW.scalar ?_
 refine AH [[0, 1, 2], [1, 3, 5]] Tryz.func87 rfl (rs := [.tmp 6]) rfl rfl ?_
 intro wf
 have z1 : (hn g .mk == hn g .mk + 1) = false := by simp
 have hgo : Mr m ts c = (IP m ts && (DV c && decide ((ts.length : Int) + c.new ≤ m.context))) := by rw [Mr, Bool.and_left_comm]
 refine DC z1 ?_
 refine AD (QX (F := F) hs hl) ?_
 rintro _ n1 hn1 rfl
 simp only [AB] at hn1
 have L1 : ∀ k k2 : OB, g.le (((g.push k).push k2).up n1) := fun k k2 => AK (le_push (le_push (H2.le.refl _))) (by simp only [AB]; exact hn1)
 cases h1 : IP m ts
 ·refine zh ?_
  exact ⟨L1 _ _, ⟨_, rfl⟩, by rw [hgo, h1]; rfl⟩
 refine zh ?_
 refine AD (Gw (F := F') hn0) ?_
 rintro _ n2 hn2 rfl
 simp only [AF] at hn2
 have L2 : ∀ k k2 : OB, g.le ((((g.push k).push k2).up n1).up n2) := fun k k2 => AK (L1 k k2) (by simp only [AF]; exact hn2)
 cases h2 : DV c
 ·refine zh ?_
  exact ⟨L2 _ _, ⟨_, rfl⟩, by rw [hgo, h1, h2]; rfl⟩
 have hc := JP h2
 have wl := AX (x := (ts.length : Int) + c.new) (by omega)
 refine LM z1 wl ?_
 exact ⟨L2 _ _, ⟨_, rfl⟩, by rw [hgo, h1, h2]; rfl⟩
theorem Ve {F : Nat → AQ} {m : AM} {b : Nat} {r s : Int} {f : AQ} {ts : List Int} {g : H2} (mt : Mt (some b) g r s) (ht : CA m) (h1 : 1 ≤ ts.length) (hl : (ts.length : Int) ≤ m.context) (ha : allI ts 0 (B2 m - 1) = true) (hsz : m.embed.length ≤ 1048576) :
  A7 Tryz.prog W0 79 [.st (BH F m), .sl f 1 (ints ts), .raw (.pointer (some ⟨b, 0, none⟩))] g (fun y g' => AV (some b) g g' ∧ Mt (some b) g' (D7 m ts r ts.length) (D5 m ts s ts.length) ∧ ∃ v f2 cs, y = .tp [v, .sl f2 1 (ints (Aw m ts ts.length))] ∧ Own (hn g .mk + 1) g' v 2 (AS m ts ts.length).length cs ∧ C9 De 2 cs (AS m ts ts.length)) := by
 have hct := (EZ ht.turns).1
 have hNp : ∀ c, (some b : Option Nat) = some c → c < hn g .mk + 1 := fun c e => by have := (mt c e).1; omega
 have p0 : (some b : Option Nat) ≠ some (hn g .mk) := fun e => by have := (mt _ e).1; omega
 have q3 : ((some b : Option Nat) == some (hn g .mk)) = false := by simp at p0 ⊢; omega
 refine AH [[0, 1, 2], [1, 2, 3], [1, 2, 3, 8], [1, 2, 3, 8, 9], [1, 2, 3, 8, 9, 10], [1, 2, 3, 8, 9, 10], [1, 2, 3, 8, 10], [1, 2, 3, 8, 10, 11, 12], [1, 2, 3, 8, 10, 12], [8, 9]] Tryz.func79 rfl (rs := [.tmp 6, .tmp 7]) rfl rfl ?_
 intro wf
 refine zh ?_
 refine AJ [1, 2, 3] (fun mm e h' => ∃ (i : Nat) (v x : X) (cs : List X), AV (some b) g h' ∧ hn g .mk + 1 ≤ hn h' .mk ∧ Mt (some b) h' (D7 m ts r i) (D5 m ts s i) ∧ hg h' (hn g .mk) .mk = some ⟨14, [.raw (.int .i64 m.dim), .raw (.int .i64 m.heads), .raw (.int .i64 m.context), .sl (F 3) 2 (AY m.merges), .sl (F 4) 1 (AE m.embed), .sl (F 5) 32 (Af m.layers), .sl (F 6) 1 (ints m.gainEnd), .raw (.int .i64 m.head.width), .sl (F 8) 1 (AE m.head.rows), .sl (F 9) 1 (AE m.head.scales), .raw (.int .i64 m.head.mul), .raw (.int .i64 m.head.shift), .sl (F 12) 1 (AE m.turns.cos), .sl (F 13) 1 (AE m.turns.sin)]⟩ ∧ look e 10 .mk = .raw (.int .i64 (i : Nat)) ∧ look e 8 .mk = v ∧ look e 9 .mk = x ∧ (A3 x = some [x] ∧ FC x = true ∧ Bg x = false) ∧ (0 < i → ∃ f2, x = .sl f2 1 (ints (Aw m ts i))) ∧ mm + i = ts.length ∧ Own (hn g .mk + 1) h' v 2 (AS m ts i).length cs ∧ C9 De 2 cs (AS m ts i)) ts.length ?_ ?_
 ·have hne : (hn g .mk == hn g .mk + 1) = false := by simp
  have hne2 : (hn g .mk == hn g .mk + 1 + 1) = false := Cw
  have hne3 : (hn g .mk + 1 == hn g .mk + 1 + 1) = false := by simp
  refine ⟨0, _, _, [], AV.push (AV.push (AV.push AV.refl)), by simp only [AB]; omega, mt.push.push.push, by simp -dsimp -implicitDefEqProofs only [go_sem, Av, hne, hne2], AL, by simp -dsimp -implicitDefEqProofs only [go_sem] <;> rfl, by simp -dsimp -implicitDefEqProofs only [go_sem] <;> rfl, ⟨rfl, rfl, rfl⟩, fun h => ?_, by omega, ⟨rfl, .inr ⟨_, rfl, by omega, by simp only [AB]; omega, by simp -dsimp -implicitDefEqProofs only [go_sem, Av, hne3] <;> rfl⟩⟩, .nil⟩
  omega
 rintro mm e h' hks ⟨i, v, x, cs, onL, nn, mtL, row, ei, ev, ex, cx, hfx, hm, ow, hc⟩
 simp -dsimp -implicitDefEqProofs only [go_sem, sQ1] at hks
 have c0 := D8 ow
 have hfl := BO (m := m) (ts := ts) (n := i)
 by_cases q1 : (i : Int) < (ts.length : Int)
 rotate_left
 ·refine Tk hks ei ev ex q1 c0 cx ?_
  obtain rfl : i = ts.length := by omega
  obtain ⟨f2, rfl⟩ := hfx (by omega)
  exact ⟨onL, mtL, v, f2, cs, rfl, ow, hc⟩
 have q2 : i < ts.length := by omega
 have w1 := BE i (by omega)
 obtain ⟨k0, k1⟩ := Jh ht ha q2
 obtain ⟨k, hk⟩ := Int.eq_ofNat_of_zero_le k0
 have hkn : (ts.getD i default).toNat = k := by omega
 have hpast := It (ts := ts) ht (n := i) (by omega) (fun j hj => (Jh ht ha hj).2)
 obtain ⟨f3, hf3⟩ := Gf M9 (p := fun c => (some b : Option Nat) ≠ some c) ow hc (fun b' hb e => by have := hNp b' e; omega)
 have e4 : AS m ts (i + 1) = AS m ts i ++ [Bb m (AS m ts i) k] := by rw [AS, hkn]
 have e5 : Aw m ts (i + 1) = Bn m (AS m ts i) k := by rw [Aw, hkn]
 have e6 : D7 m ts r (i + 1) = EL m (AS m ts i) k (D7 m ts r i) := by rw [D7, hkn]
 have e7 : D5 m ts s (i + 1) = ED m (AS m ts i) k (D5 m ts s i) := by rw [D5, hkn]
 refine FD hks ei ev ex q1 ?_
 refine Py (.op 0 [] (.op 1 [] (.op 2 [] (.op 3 [] (.op 4 [] (.op 5 [] (.op 6 [] (.alt (.op 7 [] (.op 8 [] (.op 9 [] (.op 10 [] (.op 11 [0, 5] (.op 12 [] (.op 13 [] .nil))))))) (.op 11 [0, 5] (.op 7 [] (.op 8 [] (.op 9 [] (.op 10 [] (.op 12 [] (.op 13 [] .nil))))))))))))))) (by kernel_rfl) ?_
 repeat (first | rw [ko] | rw [kr] | simp -dsimp -implicitDefEqProofs only [go_sem, sQ1, q2, row, hk])
 rw [Oh]
 refine ⟨?_, ?_⟩
 ·refine zr ?_
  refine Bm (PM.lend (.cons (EI (xs := BH F m) rfl) (.cons hf3 (.cons .raw (.cons .raw .nil)))) mtL (KH (F := F) (past := AS m ts i) (t := k) mtL.bar ht hpast (by omega) (by omega) hsz) (fun y hy => by have := hy.2; rwa [CW] at this)) ?_
  rintro _ n1 hn1 ⟨⟨F', f4, rfl⟩, _⟩
  have q6 : (hn g .mk == n1) = false := Cw
  repeat (first | rw [ko] | rw [kr] | simp -dsimp -implicitDefEqProofs only [go_sem, sQ1, sQ2, sQ3, sQ4, row, BZ q3, Av, q6])
  have onS : AV (some b) h' _ := AV.put (c := n1) (k := ⟨2, [.sl (F' 0) 1 (An (Bb m (AS m ts i) k).keys), .sl (F' 1) 1 (An (Bb m (AS m ts i) k).values)]⟩) (AV.push (k := ⟨2, [.raw (.slice none 0 0), .raw (.slice none 0 0)]⟩) (AV.up (n := n1) (AV.gM (r := EL m (AS m ts i) k (D7 m ts r i)) (s := ED m (AS m ts i) k (D5 m ts s i)) AV.refl) (by rw [Bj]; exact hn1))) hn1
  have mtS : Mt (some b) _ _ _ := Mt.put (c := n1) (k := ⟨2, [.sl (F' 0) 1 (An (Bb m (AS m ts i) k).keys), .sl (F' 1) 1 (An (Bb m (AS m ts i) k).values)]⟩) (Mt.push (k := ⟨2, [.raw (.slice none 0 0), .raw (.slice none 0 0)]⟩) (Mt.up (n := n1) (Mt.set (r' := EL m (AS m ts i) k (D7 m ts r i)) (s' := ED m (AS m ts i) k (D5 m ts s i)) mtL) (by rw [Bj]; exact hn1))) (mtL.ne hn1)
  refine V6 (P := Tryz.prog) (a := Bb m (AS m ts i) k) M9 Go.Ai.ty_el47 Go.Ai.ty_zr37 rfl Go.Ai.ty_cl47 (by omega) (Own.on ow onS mtL hNp) hc (by simp only [AF, AB, AG]; omega) (by rw [hfl]; omega) ?_
  intro v4 g4 cs4 ow4 hc4 nn4 on4
  rw [← e4] at ow4 hc4
  have row4 : hg g4 (hn g .mk) .mk = _ := (on4 (hn g .mk) (by omega)).trans ((onS.2 (hn g .mk) (by omega) p0).trans row)
  have c4 := D8 ow4
  refine A1 w1 ?_
  exact AI (mm - 1) (by omega) AL ⟨i + 1, v4, _, cs4, AV.below (onL.trans onS) (by omega) nn4 on4, nn4, by rw [e6, e7]; exact Mt.below mtS hNp nn4 on4, row4, AL, AL, by simp -dsimp -implicitDefEqProofs only [go_sem, sQ1] <;> rfl, ⟨rfl, rfl, rfl⟩, fun _ => ⟨f4, by rw [e5]⟩, by omega, ow4, hc4⟩
 ·have q5 : (hn g .mk == hn h' .mk) = false := Cw
  refine zr ?_
  try (rw [kq]; refine ⟨by simp -dsimp -implicitDefEqProofs only [go_sem, sQ1, sQ2, sQ3, sQ4, sQ5, sQ6, sQ7, hks, ei, ev, ex, q1, q2, row, hk, q5], ?_⟩)
  try (rw [kq]; refine ⟨by simp -dsimp -implicitDefEqProofs only [go_sem, sQ1, sQ2, sQ3, sQ4, sQ5, sQ6, sQ7, hks, ei, ev, ex, q1, q2, row, hk, q5], ?_⟩)
  repeat (first | rw [ko] | rw [kr] | simp -dsimp -implicitDefEqProofs only [go_sem, row, q5])
  have mtP : Mt (some b) (h'.push ⟨2, [.raw (.slice none 0 0), .raw (.slice none 0 0)]⟩) _ _ := mtL.push
  obtain ⟨f3p, hf3p⟩ := Gf M9 (p := fun c => (some b : Option Nat) ≠ some c) (Own.keep ow (le_push (k := ⟨2, [.raw (.slice none 0 0), .raw (.slice none 0 0)]⟩) (H2.le.refl h'))) hc (fun b' hb e => by have := hNp b' e; omega)
  refine Bm (PM.lend (.cons (EI (xs := BH F m) rfl) (.cons hf3p (.cons .raw (.cons .raw .nil)))) mtP (KH (F := F) (past := AS m ts i) (t := k) mtP.bar ht hpast (by omega) (by omega) hsz) (fun y hy => by have := hy.2; rwa [CW] at this)) ?_
  rintro _ n1 hn1 ⟨⟨F', f4, rfl⟩, _⟩
  rw [AB] at hn1
  have q4 : ((some b : Option Nat) == some (hn h' .mk)) = false := mtL.ne (Nat.le_refl _)
  try (rw [kq]; refine ⟨AL, ?_⟩)
  repeat (first | rw [ko] | rw [kr] | simp -dsimp -implicitDefEqProofs only [go_sem, sQ1, sQ2, sQ3, sQ4, BZ q4, Av])
  have onS : AV (some b) h' _ := AV.put (c := hn h' .mk) (k := ⟨2, [.sl (F' 0) 1 (An (Bb m (AS m ts i) k).keys), .sl (F' 1) 1 (An (Bb m (AS m ts i) k).values)]⟩) (AV.up (n := n1) (AV.gM (r := EL m (AS m ts i) k (D7 m ts r i)) (s := ED m (AS m ts i) k (D5 m ts s i)) (AV.push (k := ⟨2, [.raw (.slice none 0 0), .raw (.slice none 0 0)]⟩) AV.refl)) (by rw [Bj, AB]; exact hn1)) (Nat.le_refl _)
  have mtS : Mt (some b) _ _ _ := Mt.put (c := hn h' .mk) (k := ⟨2, [.sl (F' 0) 1 (An (Bb m (AS m ts i) k).keys), .sl (F' 1) 1 (An (Bb m (AS m ts i) k).values)]⟩) (Mt.up (n := n1) (Mt.set (r' := EL m (AS m ts i) k (D7 m ts r i)) (s' := ED m (AS m ts i) k (D5 m ts s i)) mtP) (by rw [Bj, AB]; exact hn1)) q4
  refine V6 (P := Tryz.prog) (a := Bb m (AS m ts i) k) M9 Go.Ai.ty_el47 Go.Ai.ty_zr37 rfl Go.Ai.ty_cl47 (by omega) (Own.on ow onS mtL hNp) hc (by simp only [AF, AG]; omega) (by rw [hfl]; omega) ?_
  intro v4 g4 cs4 ow4 hc4 nn4 on4
  rw [← e4] at ow4 hc4
  have row4 : hg g4 (hn g .mk) .mk = _ := (on4 (hn g .mk) (by omega)).trans ((onS.2 (hn g .mk) (by omega) p0).trans row)
  have c4 := D8 ow4
  refine A1 w1 ?_
  exact AI (mm - 1) (by omega) AL ⟨i + 1, v4, _, cs4, AV.below (onL.trans onS) (by omega) nn4 on4, nn4, by rw [e6, e7]; exact Mt.below mtS hNp nn4 on4, row4, AL, AL, by simp -dsimp -implicitDefEqProofs only [go_sem, sQ1] <;> rfl, ⟨rfl, rfl, rfl⟩, fun _ => ⟨f4, by rw [e5]⟩, by omega, ow4, hc4⟩
theorem P3 {F F' : Nat → AQ} {m : AM} {c : Ac} {f : AQ} {ts : List Int} {s : Int} {g : H2} (hs : B4 m) (hl : ts.length ≤ 1048576) (hn0 : c.stops.length ≤ 9223372036854775807) (hG : Mr m ts c = true) :
  A7 Tryz.prog W0 88 [.st (BH F m), .sl f 1 (ints ts), .st (BR F' c), .raw (.int .u64 s)] g (fun x g' => g.le g' ∧ ∃ bs, Rp (.l 1 (ints (Ca m c c.new.toNat ts s).1)) [.int .u64 (Ca m c c.new.toNat ts s).2] x g' bs ∧ Bl (hn g .mk) (hn g' .mk) bs) := by
 have h1 := hG
 unfold Mr at h1
 simp only [Bool.and_eq_true, decide_eq_true_eq] at h1
 obtain ⟨hcfg, hthr, hctx⟩ := h1
 obtain ⟨t1, t2, t3⟩ := bh hthr
 have ht := Th t1
 have hnew := JP hcfg
 have hct := (EZ ht.turns).1
 refine AH [[0, 1, 2, 3], [1, 3, 4, 6], [1, 3, 4, 6, 10], [3, 4, 6, 10, 11], [3, 4, 6, 10, 12, 13], [3, 4, 6, 10, 12, 13, 14], [3, 4, 6, 10, 12, 13, 14], [3, 4, 6, 10, 12, 13, 14], [4, 6, 10, 12, 13, 14, 15, 16], [3, 4, 6, 10, 12, 13, 14, 15], [3, 10], [3, 4, 6, 10, 12, 13, 14, 15], [3, 4, 6, 10, 12, 13, 14, 15], [3, 4, 6, 10, 12, 14, 15], [3, 4, 6, 10, 12, 14, 18, 19], [3, 4, 6, 10, 12, 14, 19], [3, 10]] Tryz.func88 rfl (rs := [.tmp 8, .tmp 9]) rfl rfl ?_
 intro wf
 have z1 : (hn g .mk == hn g .mk + 1) = false := by simp
 have z2 : (hn g .mk == hn g .mk + 1 + 1) = false := Cw
 have z3 : (hn g .mk + 1 == hn g .mk + 1 + 1) = false := by simp
 refine zh ?_
 refine G3 (P := Tryz.prog) (D := fun _ => none) (N := hn g .mk + 1 + 1 + 1) (xs := []) Go.Ai.ty_el25 Go.Ai.ty_zr3 Go.Ai.ty_cl25 (Own.new (by simp only [AB]; omega) rfl) (by simp only [AB]; omega) (by have : Go.Ai.most = 1099511627776 := rfl; simp only [List.length_nil]; omega) ?_
 intro x0 g1 ox nn1 le1 on1
 rw [List.nil_append] at ox
 simp only [AB] at nn1 on1
 obtain ⟨hlx, hox⟩ := ox
 rcases hox with ⟨_, hx0⟩ | ⟨b0, rfl, hb0, hb1, hgb⟩
 ·omega
 have le1' : ∀ q, q < hn g .mk + 1 + 1 + 1 → hg g1 q .mk = hg (((g.push ⟨14, [.raw (.int .i64 m.dim), .raw (.int .i64 m.heads), .raw (.int .i64 m.context), .sl (F 3) 2 (AY m.merges), .sl (F 4) 1 (AE m.embed), .sl (F 5) 32 (Af m.layers), .sl (F 6) 1 (ints m.gainEnd), .raw (.int .i64 m.head.width), .sl (F 8) 1 (AE m.head.rows), .sl (F 9) 1 (AE m.head.scales), .raw (.int .i64 m.head.mul), .raw (.int .i64 m.head.shift), .sl (F 12) 1 (AE m.turns.cos), .sl (F 13) 1 (AE m.turns.sin)]⟩).push ⟨4, [.raw (.int .i64 c.top), .raw (.int .i64 c.seed), .raw (.int .i64 c.new), .sl (F' 3) 1 (strs c.stops)]⟩).push ⟨1, []⟩) q .mk := fun q hq => (on1 q (by omega) (by simp only [AP, ne_eq, Option.some.injEq]; omega)).trans (by rw [Ap]; simp only [AB]; rw [show (q == hn g .mk + 1 + 1 + 1) = false by simp; omega, FB])
 have rowM : hg g1 (hn g .mk) .mk = some ⟨14, [.raw (.int .i64 m.dim), .raw (.int .i64 m.heads), .raw (.int .i64 m.context), .sl (F 3) 2 (AY m.merges), .sl (F 4) 1 (AE m.embed), .sl (F 5) 32 (Af m.layers), .sl (F 6) 1 (ints m.gainEnd), .raw (.int .i64 m.head.width), .sl (F 8) 1 (AE m.head.rows), .sl (F 9) 1 (AE m.head.scales), .raw (.int .i64 m.head.mul), .raw (.int .i64 m.head.shift), .sl (F 12) 1 (AE m.turns.cos), .sl (F 13) 1 (AE m.turns.sin)]⟩ := (le1' _ (by omega)).trans (by simp -dsimp -implicitDefEqProofs only [go_sem, Av, z1, z2] <;> rfl)
 have rowC : hg g1 (hn g .mk + 1) .mk = some ⟨4, [.raw (.int .i64 c.top), .raw (.int .i64 c.seed), .raw (.int .i64 c.new), .sl (F' 3) 1 (strs c.stops)]⟩ := (le1' _ (by omega)).trans (by simp -dsimp -implicitDefEqProofs only [go_sem, Av, z3] <;> rfl)
 have rowW : hg g1 (hn g .mk + 1 + 1) .mk = some ⟨1, []⟩ := (le1' _ (by omega)).trans (by simp -dsimp -implicitDefEqProofs only [go_sem, Av] <;> rfl)
 have le2 : g.le g1 := ⟨by omega, fun q hq => (le1' q (by omega)).trans (by
  have a1 : (q == hn g .mk) = false := Cw
  have a2 : (q == hn g .mk + 1) = false := Cw
  have a3 : (q == hn g .mk + 1 + 1) = false := Cw
  simp -dsimp -implicitDefEqProofs only [go_sem, a1, a2, a3])⟩
 refine DC rowM ?_
 have mtG : Mt (some (hn g1 .mk)) ((g1.push (E7 0 0)).kill b0) 0 0 := fun b' e => by
  cases e
  exact ⟨by simp only [Bh, AB]; omega, by rw [FO, show (hn g1 .mk == b0) = false by simp; omega, FB]; simp -dsimp -implicitDefEqProofs only [go_sem, Av]⟩
 obtain ⟨f1, hf1⟩ := aA (g := g1.push (E7 0 0)) (b := b0) (zs := ts) (q := fun _ => True) (by rw [Ap, show (b0 == hn g1 .mk) = false by simp; omega, FB]; exact hgb) rfl
 refine AA (A7.give (g := g1.push (E7 0 0)) (b := b0) (.cons (EI (xs := BH F m) rfl) (.cons hf1 (.cons .raw .nil))) (Ve (F := F) (b := hn g1 .mk) (r := 0) (s := 0) (f := f1) (ts := ts) mtG ht (by omega) (by omega) t3 hs.2.1.1)) ?_
 rintro _ g2 ⟨on2, _, v, f2, cs, rfl, ow2, hc2⟩
 obtain ⟨bv, hv, hbv, rv⟩ := Own.rowF ow2 hc2 (by rw [BO]; omega)
 rw [BO] at hv
 subst hv
 have nn2 := on2.1
 simp only [Bh, AB] at nn2 hbv
 have fr2 : ∀ q, q < hn g .mk + 1 + 1 + 1 → hg g2 q .mk = hg g1 q .mk := fun q hq => (on2.2 q (by simp only [Bh, AB]; omega) (by simp; omega)).trans (by rw [FO, show (q == b0) = false by simp; omega, FB, Ap, show (q == hn g1 .mk) = false by simp; omega, FB])
 have rowM2 := (fr2 _ (by omega)).trans rowM
 have rowC2 := (fr2 _ (by omega)).trans rowC
 have rowW2 := (fr2 _ (by omega)).trans rowW
 have le3 : g.le g2 := ⟨by omega, fun q hq => (fr2 q (by omega)).trans (le2.2 q hq)⟩
 have rw2 : CO eN 1 g2 (hn g .mk + 1 + 1) [] := ⟨by omega, [], rowW2, .nil⟩
 refine zh ?_
 refine AJ [4, 6] (fun mm e h' => ∃ (out : List Int) (st : Int) (bv bw : Nat) (f2 : AQ) (v x : X), g.le h' ∧ hn g .mk + 1 < bw ∧ hg h' (hn g .mk + 1) .mk = some ⟨4, [.raw (.int .i64 c.top), .raw (.int .i64 c.seed), .raw (.int .i64 c.new), .sl (F' 3) 1 (strs c.stops)]⟩ ∧ hg h' (hn g .mk) .mk = some ⟨14, [.raw (.int .i64 m.dim), .raw (.int .i64 m.heads), .raw (.int .i64 m.context), .sl (F 3) 2 (AY m.merges), .sl (F 4) 1 (AE m.embed), .sl (F 5) 32 (Af m.layers), .sl (F 6) 1 (ints m.gainEnd), .raw (.int .i64 m.head.width), .sl (F 8) 1 (AE m.head.rows), .sl (F 9) 1 (AE m.head.scales), .raw (.int .i64 m.head.mul), .raw (.int .i64 m.head.shift), .sl (F 12) 1 (AE m.turns.cos), .sl (F 13) 1 (AE m.turns.sin)]⟩ ∧ look e 3 .mk = .raw (.int .u64 st) ∧ look e 14 .mk = .raw (.int .i64 (out.length : Nat)) ∧ look e 10 .mk = .raw (.slice (some ⟨bw, 0, none⟩) out.length out.length) ∧ look e 12 .mk = v ∧ look e 13 .mk = x ∧ (A3 v = some [v] ∧ FC v = true ∧ Bg v = false) ∧ (A3 x = some [x] ∧ FC x = true ∧ Bg x = false) ∧ mm + out.length = c.new.toNat ∧ Ca m c c.new.toNat ts s = (out ++ (Ca m c (c.new.toNat - out.length) (ts ++ out) st).1, (Ca m c (c.new.toNat - out.length) (ts ++ out) st).2) ∧ CO eN 1 h' bw out ∧ (out.length < c.new.toNat → hn g .mk + 1 < bv ∧ bv ≠ bw ∧ v = .raw (.slice (some ⟨bv, 0, none⟩) (ts ++ out).length (ts ++ out).length) ∧ x = .sl f2 1 (ints (Aw m (ts ++ out) (ts ++ out).length)) ∧ allI (ts ++ out) 0 (B2 m - 1) = true ∧ CO De 2 h' bv (AS m (ts ++ out) (ts ++ out).length))) c.new.toNat ?_ ?_
 ·refine ⟨[], s, bv, hn g .mk + 1 + 1, f2, _, _, le3, by omega, rowC2, rowM2, AL, by simp -dsimp -implicitDefEqProofs only [go_sem] <;> rfl, by simp -dsimp -implicitDefEqProofs only [go_sem] <;> rfl, rfl, rfl, by simp -dsimp -implicitDefEqProofs only [go_sem] <;> exact ⟨rfl, rfl, rfl⟩, by simp -dsimp -implicitDefEqProofs only [go_sem] <;> exact ⟨rfl, rfl, rfl⟩, by simp only [List.length_nil]; omega, ?_, rw2, fun _ => ⟨by omega, by omega, by simp -dsimp -implicitDefEqProofs only [go_sem, List.append_nil], by simp -dsimp -implicitDefEqProofs only [go_sem, List.append_nil], by rw [List.append_nil]; exact t3, by rw [List.append_nil]; exact rv⟩⟩
  simp only [List.append_nil, List.length_nil, Nat.sub_zero, List.nil_append]
 rintro mm e h' hks ⟨out, st, bv', bw, f3, v, x, leL, hbw, rowCL, rowML, e3, e14, e10, e12, e13, cv, cx, hm, hgen, rw', hrest⟩
 simp -dsimp -implicitDefEqProofs only [go_sem, sQ1] at hks
 have nnL := leL.1
 have hw1 := rw'.1
 by_cases q1 : (out.length : Int) < c.new
 rotate_left
 ·refine UK hks e3 e14 e10 e12 e13 rowCL q1 ?_
  rw [QA hgen (by omega)]
  obtain ⟨bs, ot, bl⟩ := (rw'.ownI (N := hn g .mk) (by omega) rfl).tree
  exact ⟨leL, bs, ⟨_, rfl, ot⟩, bl⟩
 obtain ⟨hbv', hne, rfl, rfl, hall, rv'⟩ := hrest (by omega)
 have hlt : out.length < c.new.toNat := by omega
 have hv1 := rv'.1
 have ll := Mp (ts := ts ++ out) ht (by rw [List.length_append]; omega)
 obtain ⟨k0, k1, k2⟩ := KO (c := c) (s := st) (ts := ts ++ out) ht hcfg (by rw [List.length_append]; omega)
 refine UK hks e3 e14 e10 e12 e13 rowCL q1 ?_
 refine AD (Mx (F := F') (f := f3) (c := c) (s := st) (zs := Aw m (ts ++ out) (ts ++ out).length) hn0 (by omega)) ?_
 rintro _ n4 hn4 rfl
 unfold U0
 rw [k0]
 generalize hx : (Ax c st (Aw m (ts ++ out) (ts ++ out).length)).1 = x at k1 k2 ⊢
 generalize hs' : (Ax c st (Aw m (ts ++ out) (ts ++ out).length)).2.1 = st' at ⊢
 by_cases hx0 : x = 0
 ·have d1 := decide_eq_true hx0
  refine A1 d1 ?_
  have e := Pz hgen hlt (by rw [hx]; exact hx0)
  rw [hs'] at e
  rw [e]
  obtain ⟨bs, ot, bl⟩ := ((rw'.keep (g' := h'.up n4) hn4 rfl).ownI (N := hn g .mk) (by omega) rfl).tree
  exact ⟨AK leL hn4, bs, ⟨_, rfl, ot⟩, bl⟩
 have d1 := decide_eq_false hx0
 refine A1 d1 ?_
 refine M3 (P := Tryz.prog) (e := eN) (a := x) fH Go.Ai.ty_el25 Go.Ai.ty_zr3 rfl Go.Ai.ty_cl25 (by omega) (rw'.keep (g' := h'.up n4) hn4 rfl) rfl (by omega) ?_
 intro g5 rw5 nn5 fr5
 rw [AF] at nn5
 have rowC5 := (fr5 (hn g .mk + 1) (by rw [AF]; omega) (by omega)).trans rowCL
 have rowM5 := (fr5 (hn g .mk) (by rw [AF]; omega) (by omega)).trans rowML
 have rv5 : CO De 2 g5 bv' _ := rv'.keep (by omega) (fr5 bv' (by rw [AF]; omega) hne)
 have le5 : g.le g5 := ⟨by have := leL.1; omega, fun c hc => (fr5 c (by rw [AF]; omega) (by omega)).trans (leL.2 c hc)⟩
 have est := Nj hgen hlt hx0 hx hs'
 have hlen : (out ++ [x]).length = out.length + 1 := by rw [List.length_append, List.length_singleton]
 have w1 : IntKind.i64.wrap ((out.length : Int) + 1) = ((out.length + 1 : Nat) : Int) := by rw [wrap_i64] <;> omega
 by_cases hq : ((out.length + 1 : Nat) : Int) < c.new
 rotate_left
 ·refine DH rowC5 w1 hq ?_
  refine AI (mm - 1) (by omega) AL ⟨out ++ [x], st', 0, n4 + 1, f3, _, _, le5, by omega, rowC5, rowM5, AL, by simp -dsimp -implicitDefEqProofs only [go_sem, hlen], by simp -dsimp -implicitDefEqProofs only [go_sem, sQ1, hlen], rfl, rfl, by simp -dsimp -implicitDefEqProofs only [go_sem, sQ1] <;> exact ⟨rfl, rfl, rfl⟩, by simp -dsimp -implicitDefEqProofs only [go_sem, sQ1] <;> exact ⟨rfl, rfl, rfl⟩, by omega, est, rw5, fun h => by omega⟩
 obtain ⟨k, rfl⟩ := Int.eq_ofNat_of_zero_le k1
 have hpast := It (ts := ts ++ out) ht (n := (ts ++ out).length) (Nat.le_refl _) (fun j hj => (Jh ht hall hj).2)
 refine Cu rowC5 w1 hq rowM5 ?_
 have zq4 : (bv' == hn g5 .mk) = false := Cw
 have mt6 : Mt (some (hn g5 .mk)) (g5.push (E7 0 0)) 0 0 := fun b' e => by cases e; exact ⟨by simp only [AB]; omega, by simp -dsimp -implicitDefEqProofs only [go_sem, Av]⟩
 have rv6 : CO De 2 (g5.push (E7 0 0)) bv' _ := rv5.keep (by rw [AB]; omega) (by rw [Ap, zq4, FB])
 obtain ⟨cs6, hcs6, hc6⟩ := rv6.2
 have ow6 : Own bv' (g5.push (E7 0 0)) (.raw (.slice (some ⟨bv', 0, none⟩) (ts ++ out).length (ts ++ out).length)) 2 (AS m (ts ++ out) (ts ++ out).length).length cs6 := ⟨by rw [hc6.2.2], .inr ⟨bv', by rw [BO], Nat.le_refl _, rv6.1, hcs6⟩⟩
 obtain ⟨f6, hf6⟩ := ZW M9 (p := fun c => (some (hn g5 .mk) : Option Nat) ≠ some c) hcs6 hc6 (by simp only [ne_eq, Option.some.injEq]; omega)
 rw [BO] at hf6
 refine Bm (PM.lend (.cons (EI (xs := BH F m) rfl) (.cons hf6 (.cons .raw (.cons .raw .nil)))) mt6 (KH (F := F) (past := AS m (ts ++ out) (ts ++ out).length) (t := k) mt6.bar ht hpast (by rw [BO, List.length_append]; omega) (by have := ht.emb; omega) hs.2.1.1) (fun y hy => by have := hy.2; rwa [CW] at this)) ?_
 rintro _ n7 hn7 ⟨⟨F7, f7, rfl⟩, _⟩
 rw [AB] at hn7
 refine zh ?_
 have fr7 : ∀ q, q < hn g5 .mk → hg (((((gM (g5.push (E7 0 0)) (some (hn g5 .mk)) (EL m (AS m (ts ++ out) (ts ++ out).length) k 0) (ED m (AS m (ts ++ out) (ts ++ out).length) k 0)).up n7).push ⟨2, [.raw (.slice none 0 0), .raw (.slice none 0 0)]⟩).set n7 ⟨2, [.sl (F7 0) 1 (An (Bb m (AS m (ts ++ out) (ts ++ out).length) k).keys), .sl (F7 1) 1 (An (Bb m (AS m (ts ++ out) (ts ++ out).length) k).values)]⟩)) q .mk = hg g5 q .mk := fun q hq => by
  rw [BA, show (q == n7) = false by simp; omega, FB, Ap, AF, show (q == n7) = false by simp; omega, FB, Ti, BZ (by simp; omega), Ap, show (q == hn g5 .mk) = false by simp; omega, FB]
 have rv7 : CO De 2 (((((gM (g5.push (E7 0 0)) (some (hn g5 .mk)) (EL m (AS m (ts ++ out) (ts ++ out).length) k 0) (ED m (AS m (ts ++ out) (ts ++ out).length) k 0)).up n7).push ⟨2, [.raw (.slice none 0 0), .raw (.slice none 0 0)]⟩).set n7 ⟨2, [.sl (F7 0) 1 (An (Bb m (AS m (ts ++ out) (ts ++ out).length) k).keys), .sl (F7 1) 1 (An (Bb m (AS m (ts ++ out) (ts ++ out).length) k).values)]⟩)) bv' _ := rv5.keep (by simp only [AG, AF, AB]; omega) (fr7 _ (by have := rv5.1; omega))
 refine M3 (P := Tryz.prog) (e := De) (a := Bb m (AS m (ts ++ out) (ts ++ out).length) k) M9 Go.Ai.ty_el47 Go.Ai.ty_zr37 rfl Go.Ai.ty_cl47 (by omega) rv7 (by rw [BO]) (by rw [BO, List.length_append]; omega) ?_
 intro g8 rv8 nn8 fr8
 simp only [AG, AF, AB] at nn8 fr8 rv8
 have fr9 : ∀ c, c < hn g5 .mk → c ≠ bv' → hg g8 c .mk = hg g5 c .mk := fun c h1 h2 => (fr8 c (by omega) h2).trans (fr7 c h1)
 have rowC8 := (fr9 (hn g .mk + 1) (by omega) (by omega)).trans rowC5
 have rowM8 := (fr9 (hn g .mk) (by omega) (by omega)).trans rowM5
 have le8 : g.le g8 := ⟨by omega, fun c hc => (fr9 c (by omega) (by omega)).trans (le5.2 c hc)⟩
 have rw8 : CO eN 1 g8 _ _ := rw5.keep (by omega) (fr9 _ (by rw [AF]; omega) (by rw [AF]; omega))
 have ef : AS m (ts ++ (out ++ [(k : Int)])) (ts ++ (out ++ [(k : Int)])).length = AS m (ts ++ out) (ts ++ out).length ++ [Bb m (AS m (ts ++ out) (ts ++ out).length) k] := by rw [← List.append_assoc, Lv, Int.toNat_natCast]
 have el : Aw m (ts ++ (out ++ [(k : Int)])) (ts ++ (out ++ [(k : Int)])).length = Bn m (AS m (ts ++ out) (ts ++ out).length) k := by rw [← List.append_assoc, MC, Int.toNat_natCast]
 have el2 : (ts ++ (out ++ [(k : Int)])).length = (ts ++ out).length + 1 := by rw [← List.append_assoc, List.length_append, List.length_singleton]
 rw [← ef] at rv8
 refine DC w1 ?_
 refine AI (mm - 1) (by omega) AL ⟨out ++ [(k : Int)], st', _, n4 + 1, f7, _, _, le8, by omega, rowC8, rowM8, AL, by simp -dsimp -implicitDefEqProofs only [go_sem, hlen], by simp -dsimp -implicitDefEqProofs only [go_sem, sQ1, hlen], rfl, rfl, by simp -dsimp -implicitDefEqProofs only [go_sem, sQ1] <;> exact ⟨rfl, rfl, rfl⟩, by simp -dsimp -implicitDefEqProofs only [go_sem, sQ1] <;> exact ⟨rfl, rfl, rfl⟩, by omega, est, rw8, fun _ => ⟨?_, ?_, by simp -dsimp -implicitDefEqProofs only [go_sem, sQ1, el2] <;> rfl, by simp -dsimp -implicitDefEqProofs only [go_sem, sQ1, el], by rw [← List.append_assoc]; exact Ny hall (by omega) (by omega), rv8⟩⟩
 ·omega
 ·omega
theorem bo {F F' : Nat → AQ} {m : AM} {c : Ac} {f : AQ} {ts : List Int} {s : Int} {g : H2} (hs : B4 m) (hl : ts.length ≤ 1048576) (hn0 : c.stops.length ≤ 9223372036854775807) :
  A7 Tryz.prog W0 34 [.st (BH F m), .sl f 1 (ints ts), .st (BR F' c), .raw (.int .u64 s)] g (fun x g' => g.le g' ∧ ∃ bs, Rp (.l 1 (ints (HK m ts c s))) [.int .u64 (Qk m ts c s), .bool (Mr m ts c)] x g' bs ∧ Bl (hn g .mk) (hn g' .mk) bs) := by
 refine AH [[0, 1, 2, 3], [1, 3, 4, 6], [], [1, 3, 4, 6], [11, 12]] Tryz.func34 rfl (rs := [.tmp 8, .tmp 9, .tmp 10]) rfl rfl ?_
 intro wf
 have z1 : (hn g .mk == hn g .mk + 1) = false := by simp
 refine DC z1 ?_
 refine AD (XS (F := F) (F' := F') hs hl hn0) ?_
 rintro _ n1 hn1 rfl
 simp only [AB] at hn1
 have L1 : ∀ k k2 : OB, g.le (((g.push k).push k2).up n1) := fun k k2 => AK (le_push (le_push (H2.le.refl _))) (by simp only [AB]; exact hn1)
 cases h1 : Mr m ts c
 ·refine zh ?_
  obtain ⟨bs, ot, bl⟩ := (JJ (N := hn g .mk) (g := (((g.push ⟨14, BH F m⟩).push ⟨4, BR F' c⟩).up n1).push ⟨1, []⟩) (b := n1) (zs := []) rfl (by omega) (by simp only [AB, AF]; omega) (by simp -dsimp -implicitDefEqProofs only [go_sem, Av] <;> rfl)).tree
  exact ⟨le_push (L1 _ _), bs, ⟨_, by rw [Qk, h1]; rfl, by rw [HK, h1]; exact ot⟩, bl⟩
 have hO : HK m ts c s = (Ca m c c.new.toNat ts s).1 := by rw [HK, if_pos h1]
 have hS : Qk m ts c s = (Ca m c c.new.toNat ts s).2 := by rw [Qk, if_pos h1]
 rw [hO, hS]
 refine DC z1 ?_
 refine AA (P3 (F := F) (F' := F') hs hl hn0 h1) ?_
 rintro _ g2 ⟨l2, bs, ⟨v, rfl, o⟩, bl⟩
 have c1 := OT.cell o
 refine DC c1 ?_
 exact ⟨(L1 _ _).trans l2, bs, ⟨v, rfl, o⟩, bl.wide (by simp only [AF]; omega) (Nat.le_refl _)⟩
theorem SG {F F' : Nat → AQ} {m : AM} {c : Ac} {f : AQ} {ts : List Int} {g : H2} (hs : B4 m) (hl : ts.length ≤ 1048576) (hn0 : c.stops.length ≤ 9223372036854775807) :
  A7 Tryz.prog W0 39 [.st (BH F m), .sl f 1 (ints ts), .st (BR F' c)] g (fun x g' => g.le g' ∧ ∃ bs, Rp (.l 1 (ints (HK m ts c (IntKind.u64.wrap c.seed)))) [.bool (Mr m ts c)] x g' bs ∧ Bl (hn g .mk) (hn g' .mk) bs) := by
 refine AH [[0, 1, 2], [1, 3, 5], [], [1, 3, 5], [8]] Tryz.func39 rfl (rs := [.tmp 6, .tmp 7]) rfl rfl ?_
 intro wf
 have z1 : (hn g .mk == hn g .mk + 1) = false := by simp
 refine DC z1 ?_
 refine AD (XS (F := F) (F' := F') hs hl hn0) ?_
 rintro _ n1 hn1 rfl
 simp only [AB] at hn1
 have L1 : ∀ k k2 : OB, g.le (((g.push k).push k2).up n1) := fun k k2 => AK (le_push (le_push (H2.le.refl _))) (by simp only [AB]; exact hn1)
 cases h1 : Mr m ts c
 ·refine zh ?_
  obtain ⟨bs, ot, bl⟩ := (JJ (N := hn g .mk) (g := (((g.push ⟨14, BH F m⟩).push ⟨4, BR F' c⟩).up n1).push ⟨1, []⟩) (b := n1) (zs := []) rfl (by omega) (by simp only [AB, AF]; omega) (by simp -dsimp -implicitDefEqProofs only [go_sem, Av] <;> rfl)).tree
  exact ⟨le_push (L1 _ _), bs, ⟨_, rfl, by rw [HK, h1]; exact ot⟩, bl⟩
 have hO : HK m ts c (IntKind.u64.wrap c.seed) = (Ca m c c.new.toNat ts (IntKind.u64.wrap c.seed)).1 := by rw [HK, if_pos h1]
 rw [hO]
 refine zh ?_
 refine AO [(0, []), (1, []), (2, []), (3, []), (4, []), (5, [0, 2]), (6, []), (7, []), (8, []), (9, []), (10, []), (11, [])] (by kernel_rfl) ?_
 refine DC z1 ?_
 refine AA Ys ?_
 rintro _ _ ⟨rfl, rfl⟩
 refine DC z1 ?_
 refine AA (P3 (F := F) (F' := F') hs hl hn0 h1) ?_
 rintro _ g2 ⟨l2, bs, ⟨v, rfl, o⟩, bl⟩
 have c1 := OT.cell o
 refine DC c1 ?_
 exact ⟨(L1 _ _).trans l2, bs, ⟨v, rfl, o⟩, bl.wide (by simp only [AF]; omega) (Nat.le_refl _)⟩
end Go.Bi
end
section
set_option maxRecDepth 20000
namespace Go.Bi
open Go.Proofs
open Go.Ai (Bx)
variable {W0 : World} {P : Program}
inductive Ch {α : Type} (H : α → Int → Int → Prop) : Int → List α → Int → Prop
 | nil {k : Int} : Ch H k [] k
 | cons {e : α} {es : List α} {a b c : Int} : H e a b → 0 ≤ b → Ch H b es c → Ch H a (e :: es) c
theorem Ch.snoc {α : Type} {H : α → Int → Int → Prop} {e : α} : ∀ {es : List α} {a b c : Int}, Ch H a es b → H e b c → 0 ≤ c → Ch H a (es ++ [e]) c
 | [], _, _, _, .nil, h, h0 => .cons h h0 .nil
 | _ :: _, _, _, _, .cons h1 h2 h3, h, h0 => .cons h1 h2 (h3.snoc h h0)
theorem OT.inv {g : H2} {bs : List Nat} {x : X} {z : Nat} {es : List (List T)} (o : OT g bs x (.l z es)) :
  (bs = [] ∧ x = .raw (.slice none 0 0) ∧ es = []) ∨ ∃ b bs' cs, bs = b :: bs' ∧ x = .raw (.slice (some ⟨b, 0, none⟩) es.length es.length) ∧ g.get b = some ⟨z, cs⟩ ∧ cs.length = es.length * z ∧ (∀ e ∈ es, e.length = z) ∧ Ak g bs' cs es.flatten := by
 generalize ht : T.l z es = t at o
 cases o with
 | raw => cases ht
 | nil => simp only [T.l.injEq] at ht; obtain ⟨rfl, rfl⟩ := ht; exact .inl ⟨rfl, rfl, rfl⟩
 | row h1 h2 h3 h4 h5 =>
  simp only [T.l.injEq] at ht
  obtain ⟨rfl, rfl⟩ := ht
  subst h3
  exact .inr ⟨_, _, _, rfl, rfl, h1, h2, h4, h5⟩
structure cR (h0 : H2) (b z : Nat) (bs : List Nat) (g : H2) (p : Nat) (A B : List X) (bA bB : List Nat) (TA TB : List T) : Prop where
 blk : hg g b .mk = some ⟨z, A ++ B⟩
 len : A.length = p
 all : bs = bA ++ bB
 oA : Ak g bA A TA
 oB : Ak g bB B TB
 nd : (b :: bs).Nodup
 bd : ∀ x ∈ b :: bs, x < hn h0 .mk
 le : hn h0 .mk ≤ hn g .mk
 fr : ∀ x, x < hn h0 .mk → x ≠ b → x ∉ bs → g.get x = h0.get x
def FA (h0 : H2) (b z : Nat) (bs : List Nat) (g : H2) (p : Nat) (TA TB : List T) : Prop := ∃ A B bA bB, cR h0 b z bs g p A B bA bB TA TB
theorem cR.lt {h0 g : H2} {b z p : Nat} {bs bA bB : List Nat} {A B : List X} {TA TB : List T} (c : cR h0 b z bs g p A B bA bB TA TB) : b < hn g .mk := Nat.lt_of_lt_of_le (c.bd b (by simp)) c.le
theorem YV {A B : List X} {y : X} : (A ++ y :: B)[A.length]? = some y := by simp
theorem Zq {A B : List X} {y v : X} : Cv (A ++ y :: B) A.length [v] = some ((A ++ [v]) ++ B) := by
 simp only [Cv, List.length_cons, List.length_nil, List.length_append]
 rw [if_pos (by omega)]
 simp
theorem BY {g : H2} {b z : Nat} {cs cs' : List X} (h : hg (g.set b ⟨z, cs⟩) b .mk = some ⟨z, cs'⟩) : cs = cs' := by
 rw [BA] at h
 simp [hk] at h
 exact h
theorem FA.put {h0 g : H2} {b z p : Nat} {bs : List Nat} {TA TB : List T} {v : Value} (c : FA h0 b z bs g p TA (.v v :: TB)) :
  ∃ cs, hg g b .mk = some ⟨z, cs⟩ ∧ b < hn g .mk ∧ (∃ w, cs[p]? = some (.raw w)) ∧ ∀ w : Value, Bx w = true → ∃ cs', Cv cs p [.raw w] = some cs' ∧ FA h0 b z bs (g.set b ⟨z, cs'⟩) (p + 1) (TA ++ [.v w]) TB := by
 obtain ⟨A, B, bA, bB, c⟩ := c
 obtain ⟨ys, rfl, oB⟩ := Ak.headv c.oB
 have hl := c.len
 subst hl
 refine ⟨_, c.blk, c.lt, ⟨_, YV⟩, fun w hw => ⟨_, Zq, A ++ [.raw w], ys, bA, bB, ?_⟩⟩
 have hb : b ∉ bs := (List.nodup_cons.1 c.nd).1
 have hbA : ∀ x ∈ bA, x ≠ b := fun x hx e => hb (by rw [c.all, ← e]; simp [hx])
 have hbB : ∀ x ∈ bB, x ≠ b := fun x hx e => hb (by rw [c.all, ← e]; simp [hx])
 refine ⟨?_, by simp, c.all, ?_, ?_, c.nd, c.bd, c.le, fun x h1 h2 h3 => ?_⟩
 ·rw [BA]; simp [hk]
 ·have o1 : Ak (g.set b ⟨z, (A ++ [X.raw w]) ++ ys⟩) bA A TA := c.oA.frame fun x hx => by simp only [H2.set]; rw [if_neg (hbA x hx)]
  have := o1.append (Ak.one (OT.raw (g := g.set b ⟨z, (A ++ [X.raw w]) ++ ys⟩) hw))
  simpa using this
 ·exact oB.frame fun x hx => by simp only [H2.set]; rw [if_neg (hbB x hx)]
 ·simp only [H2.set]; rw [if_neg h2]; exact c.fr x h1 h2 h3
theorem FA.row {h0 g : H2} {b z p z' : Nat} {bs : List Nat} {TA TB : List T} {es : List (List T)} (c : FA h0 b z bs g p TA (.l z' es :: TB)) :
  ∃ cs y bb, hg g b .mk = some ⟨z, cs⟩ ∧ b < hn g .mk ∧ cs[p]? = some y ∧ OT g bb y (.l z' es) ∧ Bl 0 (hn g .mk) bb ∧
   ∀ g' es', OT g' bb y (.l z' es') → hn g .mk ≤ hn g' .mk → (∀ x, x < hn g .mk → x ∉ bb → g'.get x = g.get x) → FA h0 b z bs g' (p + 1) (TA ++ [.l z' es']) TB := by
 obtain ⟨A, B, bA, bB, c⟩ := c
 obtain ⟨bb, bR, y, ys, rfl, rfl, o, oB⟩ := Ak.head c.oB
 have hl := c.len
 subst hl
 have hnd := List.nodup_cons.1 c.nd
 rw [c.all] at hnd
 have h1 := List.nodup_append.1 hnd.2
 have h2 := List.nodup_append.1 h1.2.1
 have hlt : ∀ x ∈ bs, x < hn g .mk := fun x hx => Nat.lt_of_lt_of_le (c.bd x (by simp [hx])) c.le
 have hm : ∀ x ∈ bA ++ (bb ++ bR), x < hn g .mk := fun x hx => hlt x (by rw [c.all]; exact hx)
 refine ⟨_, y, bb, c.blk, c.lt, YV, o, ⟨h2.1, fun x hx => ⟨Nat.zero_le _, hm x (by simp [hx])⟩⟩, fun g' es' o' hn' fr' => ⟨A ++ [y], ys, bA ++ bb, bR, ?_⟩⟩
 have kb : g'.get b = g.get b := fr' b c.lt fun hx => hnd.1 (by simp [hx])
 refine ⟨?_, by simp, by rw [c.all, List.append_assoc], ?_, ?_, c.nd, c.bd, Nat.le_trans c.le hn', fun x q1 q2 q3 => ?_⟩
 ·show g'.get b = _
  rw [kb]
  have := c.blk
  rw [List.append_assoc]
  exact this
 ·have o1 : Ak g' bA A TA := c.oA.frame fun x hx => fr' x (hm x (by simp [hx])) fun hx' => h1.2.2 x hx x (by simp [hx']) rfl
  have := o1.append (Ak.one o')
  simpa using this
 ·exact oB.frame fun x hx => fr' x (hm x (by simp [hx])) fun hx' => h2.2.2 x hx' x hx rfl
 ·rw [fr' x (Nat.lt_of_lt_of_le q1 c.le) fun hx => q3 (by rw [c.all]; simp [hx])]
  exact c.fr x q1 q2 q3
theorem FA.cast {h0 g : H2} {b z p p' : Nat} {bs : List Nat} {TA TB TA' TB' : List T} (c : FA h0 b z bs g p TA TB) (hp : p = p') (h1 : TA = TA') (h2 : TB = TB') : FA h0 b z bs g p' TA' TB' := by
 subst hp; subst h1; subst h2; exact c
theorem FA.start {h : H2} {N b z : Nat} {bs' : List Nat} {cs : List X} {ts : List T} (hb : h.get b = some ⟨z, cs⟩) (o : Ak h bs' cs ts) (bl : Bl N (hn h .mk) (b :: bs')) : FA h b z bs' h 0 [] ts :=
 ⟨[], cs, [], bs', by exact hb, rfl, rfl, .nil, o, bl.1, fun x hx => (bl.2 x hx).2, Nat.le_refl _, fun _ _ _ _ => rfl⟩
theorem FA.full {h0 g : H2} {b z p : Nat} {bs : List Nat} {es : List (List T)} (c : FA h0 b z bs g p es.flatten []) (hp : p = es.length * z) (hz : ∀ e ∈ es, e.length = z) :
  OT g (b :: bs) (.raw (.slice (some ⟨b, 0, none⟩) es.length es.length)) (.l z es) ∧ hn h0 .mk ≤ hn g .mk ∧ ∀ x, x < hn h0 .mk → x ∉ b :: bs → g.get x = h0.get x := by
 obtain ⟨A, B, bA, bB, c⟩ := c
 obtain ⟨rfl, rfl⟩ := Ak.tail0 c.oB
 have hall := c.all
 rw [List.append_nil] at hall
 subst hall
 refine ⟨.row (by have := c.blk; rw [List.append_nil] at this; exact this) (by rw [c.len, hp]) rfl hz c.oA, c.le, fun x h1 h2 => c.fr x h1 (fun e => h2 (by simp [e])) fun hx => h2 (by simp [hx])⟩
end Go.Bi
end
section
set_option maxRecDepth 20000
namespace Go.Bi
open Go.Proofs
open Go.Ai (wrap_i64 wrap_u64 wrap_u8)
variable {W0 : World} {P : Program}
set_option maxHeartbeats 4000000
def Oz (W0 : World) (c : List Int) (a b : Int) : Prop := ∀ f g, PW Tryz.prog W0 24 [.sl f 1 (ints c), .raw (.int .i64 a)] g (fun y => y = .raw (.int .i64 b))
def CZ (W0 : World) (c : List (List Int)) (a b : Int) : Prop := True
theorem JC {c : List (List Int)} {k0 k1 : Int} (h : Ch (Oz W0) k0 c k1) (hl : c.length ≤ 4611686018427387904) : CZ W0 c k0 k1 := trivial
theorem Am {N : Nat} {bs : List Nat} {v : X} {zs : List (List Int)} {h : H2} {k0 : Int} (o : OT h bs v (.l 1 (AE zs))) (bl : Bl N (hn h .mk) bs) (hk : 0 ≤ k0 ∧ k0 + 64 * BF zs ≤ 4611686018427387904) :
  A7 Tryz.prog W0 72 [v, .raw (.int .i64 k0)] h (fun r h' => ∃ (k1 : Int) (c' : List (List Int)), r = .raw (.int .i64 k1) ∧ k0 ≤ k1 ∧ k1 ≤ k0 + 64 * BF zs ∧ OT h' bs v (.l 1 (AE c')) ∧ CZ W0 c' k0 k1 ∧ hn h .mk ≤ hn h' .mk ∧ ∀ b, b < hn h .mk → b ∉ bs → h'.get b = h.get b) := by
 have hE : ∀ a, (Di a).length = 1 := fun a => rfl
 have hsz : (zs.length : Int) ≤ BF zs := by unfold BF; omega
 rcases o.inv with ⟨rfl, rfl, he⟩ | ⟨b, bs', cs, rfl, rfl, hb, hcs, hz, oc⟩
 ·have hzs : zs = [] := by cases zs <;> simp_all [AE]
  subst hzs
  refine AH [[0, 1], [0, 1], [0, 1, 5], [0, 1, 5], [0, 1, 5], [1]] Tryz.func72 rfl (rs := [.tmp 4]) rfl rfl ?_
  intro wf
  refine zr ?_
  refine AJ [0] (fun m e h' => h' = h ∧ look e 5 .mk = .raw (.int .i64 0) ∧ look e 1 .mk = .raw (.int .i64 k0)) 0 ?_ ?_
  ·exact ⟨rfl, AL, AL⟩
  rintro m e h' hks ⟨rfl, e5, e1⟩
  simp -dsimp -implicitDefEqProofs only [go_sem, sQ1] at hks
  have q1 : ¬ ((0 : Int) < ((0 : Nat) : Int)) := by decide
  refine DH hks e5 e1 ?_
  exact ⟨k0, [], rfl, by omega, by omega, o, JC .nil (by decide), Nat.le_refl _, fun _ _ _ => rfl⟩
 ·have hlen : (AE zs).length = zs.length := GO
  rw [hlen]
  refine AH [[0, 1], [0, 1], [0, 1, 5], [0, 1, 5], [0, 1, 5], [1]] Tryz.func72 rfl (rs := [.tmp 4]) rfl rfl ?_
  intro wf
  refine zr ?_
  refine AJ [0] (fun m e h' => ∃ (i : Nat) (a : Int) (c' : List (List Int)), look e 5 .mk = .raw (.int .i64 (i : Nat)) ∧ look e 1 .mk = .raw (.int .i64 a) ∧ m + i = zs.length ∧ c'.length = i ∧ FA h b 1 bs' h' i ((c'.map Di).flatten) (((zs.drop i).map Di).flatten) ∧ Ch (Oz W0) k0 c' a ∧ k0 ≤ a ∧ a ≤ k0 + 64 * (i + Bv Cj (zs.take i))) zs.length ?_ ?_
  ·exact ⟨0, k0, [], AL, AL, by omega, rfl, FA.start hb oc bl, .nil, by omega, by omega⟩
  rintro m e h' hks ⟨i, a, c', e5, e1, hm, hcl, cur, ch, lo, hi⟩
  simp -dsimp -implicitDefEqProofs only [go_sem, sQ1] at hks
  by_cases q1 : (i : Int) < (zs.length : Int)
  ·have q2 : i < zs.length := by omega
   have hd : zs.drop i = zs.getD i default :: zs.drop (i + 1) := by rw [List.drop_eq_getElem_cons q2, List.getD_eq_getElem?_getD, List.getElem?_eq_getElem q2]; rfl
   have hst : Bv Cj (zs.take (i + 1)) = Bv Cj (zs.take i) + (zs.getD i default).length := GK (f := Cj) q2
   have hle : Bv Cj (zs.take (i + 1)) ≤ Bv Cj zs := by
    have := Dy (f := Cj) (l := zs.take (i + 1)) (m := zs.drop (i + 1))
    rw [List.take_append_drop] at this
    omega
   have hsz2 : BF zs = zs.length + Bv Cj zs := rfl
   have w1 := AU q2 (by omega)
   obtain ⟨cs2, y, bb, hblk, hblt, hget, oy, bly, fin⟩ := (cur.cast (TB' := .l 1 (ints (zs.getD i default)) :: ((zs.drop (i + 1)).map Di).flatten) rfl rfl (by rw [hd]; rfl)).row
   have hy := OT.cell oy
   have hi2 : (0 : Int) ≤ (i : Int) ∧ (i : Int) < (zs.length : Int) := by omega
   repeat (first | rw [ko] | rw [kr] | simp -dsimp -implicitDefEqProofs only [go_sem, sQ1, hks, e5, e1, q1, hi2, hblk, hget, Int.toNat_natCast])
   refine AA (CT oy bly ⟨by omega, by omega⟩) ?_
   rintro _ g' ⟨a', z', rfl, lo', hi', o', hh, nn, fr⟩
   have cur' := fin g' _ o' nn fr
   refine A1 w1 ?_
   refine AI (m - 1) (by omega) AL ⟨i + 1, a', c' ++ [z'], AL, AL, by omega, by simp [hcl], cur'.cast rfl (by simp [Di]) rfl, ch.snoc hh (by omega), by omega, by omega⟩
  ·refine Cu hks e5 e1 q1 ?_
   have hi3 : i = zs.length := by omega
   rw [hi3] at cur hi
   rw [List.take_length] at hi
   rw [List.drop_length] at cur
   have hcl2 : (AE c').length = zs.length := by rw [GO, hcl, hi3]
   obtain ⟨f1, f2, f3⟩ := FA.full (es := AE c') cur (by rw [hcl2]; omega) (fun e he => by
    obtain ⟨x, _, rfl⟩ := List.mem_map.1 he
    exact hE x)
   rw [hcl2] at f1
   exact ⟨a, c', rfl, lo, hi, f1, JC ch (by rw [hcl]; omega), f2, f3⟩
end Go.Bi
end
section
set_option maxRecDepth 20000
namespace Go.Bi
open Go.Proofs
open Go.Ai (wrap_i64 wrap_u64 wrap_u8)
variable {W0 : World} {P : Program}
set_option maxHeartbeats 4000000
def Tw (W0 : World) (e : Ae) (a b : Int) : Prop := e.a = a ∧ e.b = a + 1 ∧ b = a + 1 + 1 ∧ 0 ≤ a ∧ b ≤ 4611686018427387904
def P0 (W0 : World) (c : List Ae) (a b : Int) : Prop := True
theorem II {c : List Ae} {k0 k1 : Int} (h : Ch (Tw W0) k0 c k1) (hl : c.length ≤ 4611686018427387904) : P0 W0 c k0 k1 := trivial
theorem Kp {N : Nat} {bs : List Nat} {v : X} {zs : List Ae} {h : H2} {k0 : Int} (o : OT h bs v (.l 2 (AY zs))) (bl : Bl N (hn h .mk) bs) (hk : 0 ≤ k0 ∧ k0 + 64 * Cn zs ≤ 4611686018427387904) :
  A7 Tryz.prog W0 71 [v, .raw (.int .i64 k0)] h (fun r h' => ∃ (k1 : Int) (c' : List Ae), r = .raw (.int .i64 k1) ∧ k0 ≤ k1 ∧ k1 ≤ k0 + 64 * Cn zs ∧ OT h' bs v (.l 2 (AY c')) ∧ P0 W0 c' k0 k1 ∧ hn h .mk ≤ hn h' .mk ∧ ∀ b, b < hn h .mk → b ∉ bs → h'.get b = h.get b) := by
 have hE : ∀ a, (DK a).length = 2 := fun a => rfl
 have hsz : (zs.length : Int) ≤ Cn zs := by unfold Cn; omega
 rcases o.inv with ⟨rfl, rfl, he⟩ | ⟨b, bs', cs, rfl, rfl, hb, hcs, hz, oc⟩
 ·have hzs : zs = [] := by cases zs <;> simp_all [AY]
  subst hzs
  refine AH [[0, 1], [0, 1], [0, 1, 5], [0, 1, 5], [0, 1, 5], [0, 1, 5], [0, 1, 5], [0, 1, 5], [1]] Tryz.func71 rfl (rs := [.tmp 4]) rfl rfl ?_
  intro wf
  refine zr ?_
  refine AJ [0] (fun m e h' => h' = h ∧ look e 5 .mk = .raw (.int .i64 0) ∧ look e 1 .mk = .raw (.int .i64 k0)) 0 ?_ ?_
  ·exact ⟨rfl, AL, AL⟩
  rintro m e h' hks ⟨rfl, e5, e1⟩
  simp -dsimp -implicitDefEqProofs only [go_sem, sQ1] at hks
  have q1 : ¬ ((0 : Int) < ((0 : Nat) : Int)) := by decide
  refine DH hks e5 e1 ?_
  exact ⟨k0, [], rfl, by omega, by omega, o, II .nil (by decide), Nat.le_refl _, fun _ _ _ => rfl⟩
 ·have hlen : (AY zs).length = zs.length := HV
  rw [hlen]
  refine AH [[0, 1], [0, 1], [0, 1, 5], [0, 1, 5], [0, 1, 5], [0, 1, 5], [0, 1, 5], [0, 1, 5], [1]] Tryz.func71 rfl (rs := [.tmp 4]) rfl rfl ?_
  intro wf
  refine zr ?_
  refine AJ [0] (fun m e h' => ∃ (i : Nat) (a : Int) (c' : List Ae), look e 5 .mk = .raw (.int .i64 (i : Nat)) ∧ look e 1 .mk = .raw (.int .i64 a) ∧ m + i = zs.length ∧ c'.length = i ∧ FA h b 2 bs' h' (i * 2) ((c'.map DK).flatten) (((zs.drop i).map DK).flatten) ∧ Ch (Tw W0) k0 c' a ∧ k0 ≤ a ∧ a ≤ k0 + 64 * (i + Bv CB (zs.take i))) zs.length ?_ ?_
  ·exact ⟨0, k0, [], AL, AL, by omega, rfl, (FA.start hb oc bl).cast (by omega) rfl rfl, .nil, by omega, by omega⟩
  rintro m e h' hks ⟨i, a, c', e5, e1, hm, hcl, cur0, ch, lo, hi⟩
  simp -dsimp -implicitDefEqProofs only [go_sem, sQ1] at hks
  by_cases q1 : (i : Int) < (zs.length : Int)
  ·have q2 : i < zs.length := by omega
   have hd : zs.drop i = zs.getD i default :: zs.drop (i + 1) := by rw [List.drop_eq_getElem_cons q2, List.getD_eq_getElem?_getD, List.getElem?_eq_getElem q2]; rfl
   have hst : Bv CB (zs.take (i + 1)) = Bv CB (zs.take i) + CB (zs.getD i default) := GK (f := CB) q2
   have hle : Bv CB (zs.take (i + 1)) ≤ Bv CB zs := by
    have := Dy (f := CB) (l := zs.take (i + 1)) (m := zs.drop (i + 1))
    rw [List.take_append_drop] at this
    omega
   have hsz2 : Cn zs = zs.length + Bv CB zs := rfl
   have hszE : True := trivial
   have w1 := AU q2 (by omega)
   have hi2 : (0 : Int) ≤ (i : Int) ∧ (i : Int) < (zs.length : Int) := by omega
   replace cur0 := cur0.cast (TB' := [.v (.int .i64 (zs.getD i default).a), .v (.int .i64 (zs.getD i default).b)] ++ ((zs.drop (i + 1)).map DK).flatten) rfl rfl (by rw [hd]; rfl)
   simp only [List.cons_append, List.nil_append] at cur0
   obtain ⟨cs0, hblk0, hlt0, ⟨_, hget0⟩, hput0⟩ := cur0.put
   obtain ⟨cw0, hw0, cur1⟩ := hput0 (.int .i64 (a)) rfl
   try simp only [set_set] at cur1
   have v0 : IntKind.i64.wrap (a + 1) = a + 1 := by rw [wrap_i64] <;> omega
   obtain ⟨cs1, hblk1, hlt1, ⟨_, hget1⟩, hput1⟩ := cur1.put
   obtain ⟨cw1, hw1, cur2⟩ := hput1 (.int .i64 (a + 1)) rfl
   have es1 := BY hblk1
   subst es1
   try simp only [set_set] at cur2
   have v1 : IntKind.i64.wrap (a + 1 + 1) = a + 1 + 1 := by rw [wrap_i64] <;> omega
   repeat (first | rw [ko] | rw [kr] | simp -dsimp -implicitDefEqProofs only [go_sem, sQ1, hks, e5, e1, q1, hi2, Int.toNat_natCast, Av, w1, hblk0, hw0, v0, hblk1, hw1, v1])
   refine AI (m - 1) (by omega) AL ⟨i + 1, a + 1 + 1, c' ++ [(⟨a, a + 1⟩ : Ae)], AL, AL, by omega, by simp [hcl], cur2.cast (by omega) (by simp [DK, List.append_assoc]) rfl, ch.snoc ⟨rfl, rfl, rfl, by omega, by omega⟩ (by omega), by omega, by omega⟩
  ·refine Cu hks e5 e1 q1 ?_
   have hi3 : i = zs.length := by omega
   rw [hi3] at cur0 hi
   rw [List.take_length] at hi
   rw [List.drop_length] at cur0
   have hcl2 : (AY c').length = zs.length := by rw [HV, hcl, hi3]
   obtain ⟨f1, f2, f3⟩ := FA.full (es := AY c') cur0 (by rw [hcl2]) (fun e he => by
    obtain ⟨x, _, rfl⟩ := List.mem_map.1 he
    exact hE x)
   rw [hcl2] at f1
   exact ⟨a, c', rfl, lo, hi, f1, II ch (by rw [hcl]; omega), f2, f3⟩
end Go.Bi
end
section
set_option maxRecDepth 20000
namespace Go.Bi
open Go.Proofs
open Go.Ai (wrap_i64 wrap_u64 wrap_u8)
variable {W0 : World} {P : Program}
set_option maxHeartbeats 4000000
def Tq (W0 : World) (e : Aj) (a b : Int) : Prop := ∃ (k0 k2 k3 k7 k8 k12 k13 k17 k18 k21 k23 k24 k28 k29 : Int), (Oz W0 e.gain1 (a) k0 ∧ a ≤ k0) ∧ e.q.width = k0 ∧ (CZ W0 e.q.rows (k0 + 1) k2 ∧ k0 + 1 ≤ k2) ∧ (CZ W0 e.q.scales (k2) k3 ∧ k2 ≤ k3) ∧ e.q.mul = k3 ∧ e.q.shift = k3 + 1 ∧ e.k.width = k3 + 1 + 1 ∧ (CZ W0 e.k.rows (k3 + 1 + 1 + 1) k7 ∧ k3 + 1 + 1 + 1 ≤ k7) ∧ (CZ W0 e.k.scales (k7) k8 ∧ k7 ≤ k8) ∧ e.k.mul = k8 ∧ e.k.shift = k8 + 1 ∧ e.v.width = k8 + 1 + 1 ∧ (CZ W0 e.v.rows (k8 + 1 + 1 + 1) k12 ∧ k8 + 1 + 1 + 1 ≤ k12) ∧ (CZ W0 e.v.scales (k12) k13 ∧ k12 ≤ k13) ∧ e.v.mul = k13 ∧ e.v.shift = k13 + 1 ∧ e.o.width = k13 + 1 + 1 ∧ (CZ W0 e.o.rows (k13 + 1 + 1 + 1) k17 ∧ k13 + 1 + 1 + 1 ≤ k17) ∧ (CZ W0 e.o.scales (k17) k18 ∧ k17 ≤ k18) ∧ e.o.mul = k18 ∧ e.o.shift = k18 + 1 ∧ (Oz W0 e.gain2 (k18 + 1 + 1) k21 ∧ k18 + 1 + 1 ≤ k21) ∧ e.up.width = k21 ∧ (CZ W0 e.up.rows (k21 + 1) k23 ∧ k21 + 1 ≤ k23) ∧ (CZ W0 e.up.scales (k23) k24 ∧ k23 ≤ k24) ∧ e.up.mul = k24 ∧ e.up.shift = k24 + 1 ∧ e.down.width = k24 + 1 + 1 ∧ (CZ W0 e.down.rows (k24 + 1 + 1 + 1) k28 ∧ k24 + 1 + 1 + 1 ≤ k28) ∧ (CZ W0 e.down.scales (k28) k29 ∧ k28 ≤ k29) ∧ e.down.mul = k29 ∧ e.down.shift = k29 + 1 ∧ b = k29 + 1 + 1 ∧ 0 ≤ a ∧ b ≤ 4611686018427387904
def QH (W0 : World) (c : List Aj) (a b : Int) : Prop := True
theorem IF {c : List Aj} {k0 k1 : Int} (h : Ch (Tq W0) k0 c k1) (hl : c.length ≤ 4611686018427387904) : QH W0 c k0 k1 := trivial
theorem Kn {N : Nat} {bs : List Nat} {v : X} {zs : List Aj} {h : H2} {k0 : Int} (o : OT h bs v (.l 32 (Af zs))) (bl : Bl N (hn h .mk) bs) (hk : 0 ≤ k0 ∧ k0 + 64 * Cg zs ≤ 4611686018427387904) :
  A7 Tryz.prog W0 73 [v, .raw (.int .i64 k0)] h (fun r h' => ∃ (k1 : Int) (c' : List Aj), r = .raw (.int .i64 k1) ∧ k0 ≤ k1 ∧ k1 ≤ k0 + 64 * Cg zs ∧ OT h' bs v (.l 32 (Af c')) ∧ QH W0 c' k0 k1 ∧ hn h .mk ≤ hn h' .mk ∧ ∀ b, b < hn h .mk → b ∉ bs → h'.get b = h.get b) := by
 have hE : ∀ a, (DP a).length = 32 := fun a => rfl
 have hsz : (zs.length : Int) ≤ Cg zs := by unfold Cg; omega
 rcases o.inv with ⟨rfl, rfl, he⟩ | ⟨b, bs', cs, rfl, rfl, hb, hcs, hz, oc⟩
 ·have hzs : zs = [] := by cases zs <;> simp_all [Af]
  subst hzs
  refine AH [[0, 1], [0, 1], [0, 1, 5], [0, 1, 5], [0, 1, 5], [0, 1, 5], [0, 1, 5], [0, 1, 5], [0, 1, 5], [0, 1, 5], [0, 1, 5], [0, 1, 5], [0, 1, 5], [0, 1, 5], [0, 1, 5], [0, 1, 5], [0, 1, 5], [0, 1, 5], [0, 1, 5], [0, 1, 5], [0, 1, 5], [0, 1, 5], [0, 1, 5], [0, 1, 5], [0, 1, 5], [0, 1, 5], [0, 1, 5], [0, 1, 5], [0, 1, 5], [0, 1, 5], [0, 1, 5], [0, 1, 5], [0, 1, 5], [0, 1, 5], [0, 1, 5], [0, 1, 5], [0, 1, 5], [0, 1, 5], [0, 1, 5], [0, 1, 5], [0, 1, 5], [0, 1, 5], [0, 1, 5], [0, 1, 5], [0, 1, 5], [0, 1, 5], [0, 1, 5], [0, 1, 5], [0, 1, 5], [0, 1, 5], [0, 1, 5], [0, 1, 5], [0, 1, 5], [0, 1, 5], [1]] Tryz.func73 rfl (rs := [.tmp 4]) rfl rfl ?_
  intro wf
  refine zr ?_
  refine AJ [0] (fun m e h' => h' = h ∧ look e 5 .mk = .raw (.int .i64 0) ∧ look e 1 .mk = .raw (.int .i64 k0)) 0 ?_ ?_
  ·exact ⟨rfl, AL, AL⟩
  rintro m e h' hks ⟨rfl, e5, e1⟩
  simp -dsimp -implicitDefEqProofs only [go_sem, sQ1] at hks
  have q1 : ¬ ((0 : Int) < ((0 : Nat) : Int)) := by decide
  refine DH hks e5 e1 ?_
  exact ⟨k0, [], rfl, by omega, by omega, o, IF .nil (by decide), Nat.le_refl _, fun _ _ _ => rfl⟩
 ·have hlen : (Af zs).length = zs.length := HR
  rw [hlen]
  refine AH [[0, 1], [0, 1], [0, 1, 5], [0, 1, 5], [0, 1, 5], [0, 1, 5], [0, 1, 5], [0, 1, 5], [0, 1, 5], [0, 1, 5], [0, 1, 5], [0, 1, 5], [0, 1, 5], [0, 1, 5], [0, 1, 5], [0, 1, 5], [0, 1, 5], [0, 1, 5], [0, 1, 5], [0, 1, 5], [0, 1, 5], [0, 1, 5], [0, 1, 5], [0, 1, 5], [0, 1, 5], [0, 1, 5], [0, 1, 5], [0, 1, 5], [0, 1, 5], [0, 1, 5], [0, 1, 5], [0, 1, 5], [0, 1, 5], [0, 1, 5], [0, 1, 5], [0, 1, 5], [0, 1, 5], [0, 1, 5], [0, 1, 5], [0, 1, 5], [0, 1, 5], [0, 1, 5], [0, 1, 5], [0, 1, 5], [0, 1, 5], [0, 1, 5], [0, 1, 5], [0, 1, 5], [0, 1, 5], [0, 1, 5], [0, 1, 5], [0, 1, 5], [0, 1, 5], [0, 1, 5], [1]] Tryz.func73 rfl (rs := [.tmp 4]) rfl rfl ?_
  intro wf
  refine zr ?_
  refine AJ [0] (fun m e h' => ∃ (i : Nat) (a : Int) (c' : List Aj), look e 5 .mk = .raw (.int .i64 (i : Nat)) ∧ look e 1 .mk = .raw (.int .i64 a) ∧ m + i = zs.length ∧ c'.length = i ∧ FA h b 32 bs' h' (i * 32) ((c'.map DP).flatten) (((zs.drop i).map DP).flatten) ∧ Ch (Tq W0) k0 c' a ∧ k0 ≤ a ∧ a ≤ k0 + 64 * (i + Bv BK (zs.take i))) zs.length ?_ ?_
  ·exact ⟨0, k0, [], AL, AL, by omega, rfl, (FA.start hb oc bl).cast (by omega) rfl rfl, .nil, by omega, by omega⟩
  rintro m e h' hks ⟨i, a, c', e5, e1, hm, hcl, cur0, ch, lo, hi⟩
  simp -dsimp -implicitDefEqProofs only [go_sem, sQ1] at hks
  by_cases q1 : (i : Int) < (zs.length : Int)
  ·have q2 : i < zs.length := by omega
   have hd : zs.drop i = zs.getD i default :: zs.drop (i + 1) := by rw [List.drop_eq_getElem_cons q2, List.getD_eq_getElem?_getD, List.getElem?_eq_getElem q2]; rfl
   have hst : Bv BK (zs.take (i + 1)) = Bv BK (zs.take i) + BK (zs.getD i default) := GK (f := BK) q2
   have hle : Bv BK (zs.take (i + 1)) ≤ Bv BK zs := by
    have := Dy (f := BK) (l := zs.take (i + 1)) (m := zs.drop (i + 1))
    rw [List.take_append_drop] at this
    omega
   have hsz2 : Cg zs = zs.length + Bv BK zs := rfl
   have hszE : BK (zs.getD i default) = (zs.getD i default).gain1.length + A0 (zs.getD i default).q + A0 (zs.getD i default).k + A0 (zs.getD i default).v + A0 (zs.getD i default).o + (zs.getD i default).gain2.length + A0 (zs.getD i default).up + A0 (zs.getD i default).down := rfl
   have hsz_Matrix : A0 (zs.getD i default).q = BF (zs.getD i default).q.rows + BF (zs.getD i default).q.scales := rfl
   have hsz_Matrix : A0 (zs.getD i default).k = BF (zs.getD i default).k.rows + BF (zs.getD i default).k.scales := rfl
   have hsz_Matrix : A0 (zs.getD i default).v = BF (zs.getD i default).v.rows + BF (zs.getD i default).v.scales := rfl
   have hsz_Matrix : A0 (zs.getD i default).o = BF (zs.getD i default).o.rows + BF (zs.getD i default).o.scales := rfl
   have hsz_Matrix : A0 (zs.getD i default).up = BF (zs.getD i default).up.rows + BF (zs.getD i default).up.scales := rfl
   have hsz_Matrix : A0 (zs.getD i default).down = BF (zs.getD i default).down.rows + BF (zs.getD i default).down.scales := rfl
   have w1 := AU q2 (by omega)
   have hi2 : (0 : Int) ≤ (i : Int) ∧ (i : Int) < (zs.length : Int) := by omega
   replace cur0 := cur0.cast (TB' := [.l 1 (ints (zs.getD i default).gain1), .v (.int .i64 (zs.getD i default).q.width), .l 1 (AE (zs.getD i default).q.rows), .l 1 (AE (zs.getD i default).q.scales), .v (.int .i64 (zs.getD i default).q.mul), .v (.int .i64 (zs.getD i default).q.shift), .v (.int .i64 (zs.getD i default).k.width), .l 1 (AE (zs.getD i default).k.rows), .l 1 (AE (zs.getD i default).k.scales), .v (.int .i64 (zs.getD i default).k.mul), .v (.int .i64 (zs.getD i default).k.shift), .v (.int .i64 (zs.getD i default).v.width), .l 1 (AE (zs.getD i default).v.rows), .l 1 (AE (zs.getD i default).v.scales), .v (.int .i64 (zs.getD i default).v.mul), .v (.int .i64 (zs.getD i default).v.shift), .v (.int .i64 (zs.getD i default).o.width), .l 1 (AE (zs.getD i default).o.rows), .l 1 (AE (zs.getD i default).o.scales), .v (.int .i64 (zs.getD i default).o.mul), .v (.int .i64 (zs.getD i default).o.shift), .l 1 (ints (zs.getD i default).gain2), .v (.int .i64 (zs.getD i default).up.width), .l 1 (AE (zs.getD i default).up.rows), .l 1 (AE (zs.getD i default).up.scales), .v (.int .i64 (zs.getD i default).up.mul), .v (.int .i64 (zs.getD i default).up.shift), .v (.int .i64 (zs.getD i default).down.width), .l 1 (AE (zs.getD i default).down.rows), .l 1 (AE (zs.getD i default).down.scales), .v (.int .i64 (zs.getD i default).down.mul), .v (.int .i64 (zs.getD i default).down.shift)] ++ ((zs.drop (i + 1)).map DP).flatten) rfl rfl (by rw [hd]; rfl)
   simp only [List.cons_append, List.nil_append] at cur0
   obtain ⟨cs0, y0, bb0, hblk0, hlt0, hget0, oy0, bly0, fin0⟩ := cur0.row
   have hy0 := OT.cell oy0
   repeat (first | rw [ko] | rw [kr] | simp -dsimp -implicitDefEqProofs only [go_sem, sQ1, hks, e5, e1, q1, hi2, Int.toNat_natCast, Av, hblk0, hget0])
   refine AA (CT oy0 bly0 ⟨by omega, by omega⟩) ?_
   rintro _ g0 ⟨k0, x0, rfl, lo0, hi0, o0, hh0, nn0, fr0⟩
   have cur1 := fin0 g0 _ o0 nn0 fr0
   obtain ⟨cs1, hblk1, hlt1, ⟨_, hget1⟩, hput1⟩ := cur1.put
   obtain ⟨cw1, hw1, cur2⟩ := hput1 (.int .i64 (k0)) rfl
   try simp only [set_set] at cur2
   have v1 : IntKind.i64.wrap (k0 + 1) = k0 + 1 := by rw [wrap_i64] <;> omega
   obtain ⟨cs2, y2, bb2, hblk2, hlt2, hget2, oy2, bly2, fin2⟩ := cur2.row
   have hy2 := OT.cell oy2
   have es2 := BY hblk2
   subst es2
   repeat (first | rw [ko] | rw [kr] | simp -dsimp -implicitDefEqProofs only [go_sem, sQ1, q1, hi2, Int.toNat_natCast, Av, hblk1, hw1, v1, hblk2, hget2])
   refine AA (Am oy2 bly2 ⟨by omega, by omega⟩) ?_
   rintro _ g2 ⟨k2, x2, rfl, lo2, hi2, o2, hh2, nn2, fr2⟩
   have cur3 := fin2 g2 _ o2 nn2 fr2
   obtain ⟨cs3, y3, bb3, hblk3, hlt3, hget3, oy3, bly3, fin3⟩ := cur3.row
   have hy3 := OT.cell oy3
   repeat (first | rw [ko] | rw [kr] | simp -dsimp -implicitDefEqProofs only [go_sem, sQ1, q1, CN, Int.toNat_natCast, Av, hblk3, hget3])
   refine AA (Am oy3 bly3 ⟨by omega, by omega⟩) ?_
   rintro _ g3 ⟨k3, x3, rfl, lo3, hi3, o3, hh3, nn3, fr3⟩
   have cur4 := fin3 g3 _ o3 nn3 fr3
   obtain ⟨cs4, hblk4, hlt4, ⟨_, hget4⟩, hput4⟩ := cur4.put
   obtain ⟨cw4, hw4, cur5⟩ := hput4 (.int .i64 (k3)) rfl
   try simp only [set_set] at cur5
   have v4 : IntKind.i64.wrap (k3 + 1) = k3 + 1 := by rw [wrap_i64] <;> omega
   obtain ⟨cs5, hblk5, hlt5, ⟨_, hget5⟩, hput5⟩ := cur5.put
   obtain ⟨cw5, hw5, cur6⟩ := hput5 (.int .i64 (k3 + 1)) rfl
   have es5 := BY hblk5
   subst es5
   try simp only [set_set] at cur6
   have v5 : IntKind.i64.wrap (k3 + 1 + 1) = k3 + 1 + 1 := by rw [wrap_i64] <;> omega
   obtain ⟨cs6, hblk6, hlt6, ⟨_, hget6⟩, hput6⟩ := cur6.put
   obtain ⟨cw6, hw6, cur7⟩ := hput6 (.int .i64 (k3 + 1 + 1)) rfl
   have es6 := BY hblk6
   subst es6
   try simp only [set_set] at cur7
   have v6 : IntKind.i64.wrap (k3 + 1 + 1 + 1) = k3 + 1 + 1 + 1 := by rw [wrap_i64] <;> omega
   obtain ⟨cs7, y7, bb7, hblk7, hlt7, hget7, oy7, bly7, fin7⟩ := cur7.row
   have hy7 := OT.cell oy7
   have es7 := BY hblk7
   subst es7
   repeat (first | rw [ko] | rw [kr] | simp -dsimp -implicitDefEqProofs only [go_sem, sQ1, q1, CN, Int.toNat_natCast, Av, hblk4, hw4, v4, hblk5, hw5, v5, hblk6, hw6, v6, hblk7, hget7])
   refine AA (Am oy7 bly7 ⟨by omega, by omega⟩) ?_
   rintro _ g7 ⟨k7, x7, rfl, lo7, hi7, o7, hh7, nn7, fr7⟩
   have cur8 := fin7 g7 _ o7 nn7 fr7
   obtain ⟨cs8, y8, bb8, hblk8, hlt8, hget8, oy8, bly8, fin8⟩ := cur8.row
   have hy8 := OT.cell oy8
   repeat (first | rw [ko] | rw [kr] | simp -dsimp -implicitDefEqProofs only [go_sem, sQ1, q1, CN, Int.toNat_natCast, Av, hblk8, hget8])
   refine AA (Am oy8 bly8 ⟨by omega, by omega⟩) ?_
   rintro _ g8 ⟨k8, x8, rfl, lo8, hi8, o8, hh8, nn8, fr8⟩
   have cur9 := fin8 g8 _ o8 nn8 fr8
   obtain ⟨cs9, hblk9, hlt9, ⟨_, hget9⟩, hput9⟩ := cur9.put
   obtain ⟨cw9, hw9, cur10⟩ := hput9 (.int .i64 (k8)) rfl
   try simp only [set_set] at cur10
   have v9 : IntKind.i64.wrap (k8 + 1) = k8 + 1 := by rw [wrap_i64] <;> omega
   obtain ⟨cs10, hblk10, hlt10, ⟨_, hget10⟩, hput10⟩ := cur10.put
   obtain ⟨cw10, hw10, cur11⟩ := hput10 (.int .i64 (k8 + 1)) rfl
   have es10 := BY hblk10
   subst es10
   try simp only [set_set] at cur11
   have v10 : IntKind.i64.wrap (k8 + 1 + 1) = k8 + 1 + 1 := by rw [wrap_i64] <;> omega
   obtain ⟨cs11, hblk11, hlt11, ⟨_, hget11⟩, hput11⟩ := cur11.put
   obtain ⟨cw11, hw11, cur12⟩ := hput11 (.int .i64 (k8 + 1 + 1)) rfl
   have es11 := BY hblk11
   subst es11
   try simp only [set_set] at cur12
   have v11 : IntKind.i64.wrap (k8 + 1 + 1 + 1) = k8 + 1 + 1 + 1 := by rw [wrap_i64] <;> omega
   obtain ⟨cs12, y12, bb12, hblk12, hlt12, hget12, oy12, bly12, fin12⟩ := cur12.row
   have hy12 := OT.cell oy12
   have es12 := BY hblk12
   subst es12
   repeat (first | rw [ko] | rw [kr] | simp -dsimp -implicitDefEqProofs only [go_sem, sQ1, q1, CN, Int.toNat_natCast, Av, hblk9, hw9, v9, hblk10, hw10, v10, hblk11, hw11, v11, hblk12, hget12])
   refine AA (Am oy12 bly12 ⟨by omega, by omega⟩) ?_
   rintro _ g12 ⟨k12, x12, rfl, lo12, hi12, o12, hh12, nn12, fr12⟩
   have cur13 := fin12 g12 _ o12 nn12 fr12
   obtain ⟨cs13, y13, bb13, hblk13, hlt13, hget13, oy13, bly13, fin13⟩ := cur13.row
   have hy13 := OT.cell oy13
   repeat (first | rw [ko] | rw [kr] | simp -dsimp -implicitDefEqProofs only [go_sem, sQ1, q1, CN, Int.toNat_natCast, Av, hblk13, hget13])
   refine AA (Am oy13 bly13 ⟨by omega, by omega⟩) ?_
   rintro _ g13 ⟨k13, x13, rfl, lo13, hi13, o13, hh13, nn13, fr13⟩
   have cur14 := fin13 g13 _ o13 nn13 fr13
   obtain ⟨cs14, hblk14, hlt14, ⟨_, hget14⟩, hput14⟩ := cur14.put
   obtain ⟨cw14, hw14, cur15⟩ := hput14 (.int .i64 (k13)) rfl
   try simp only [set_set] at cur15
   have v14 : IntKind.i64.wrap (k13 + 1) = k13 + 1 := by rw [wrap_i64] <;> omega
   obtain ⟨cs15, hblk15, hlt15, ⟨_, hget15⟩, hput15⟩ := cur15.put
   obtain ⟨cw15, hw15, cur16⟩ := hput15 (.int .i64 (k13 + 1)) rfl
   have es15 := BY hblk15
   subst es15
   try simp only [set_set] at cur16
   have v15 : IntKind.i64.wrap (k13 + 1 + 1) = k13 + 1 + 1 := by rw [wrap_i64] <;> omega
   obtain ⟨cs16, hblk16, hlt16, ⟨_, hget16⟩, hput16⟩ := cur16.put
   obtain ⟨cw16, hw16, cur17⟩ := hput16 (.int .i64 (k13 + 1 + 1)) rfl
   have es16 := BY hblk16
   subst es16
   try simp only [set_set] at cur17
   have v16 : IntKind.i64.wrap (k13 + 1 + 1 + 1) = k13 + 1 + 1 + 1 := by rw [wrap_i64] <;> omega
   obtain ⟨cs17, y17, bb17, hblk17, hlt17, hget17, oy17, bly17, fin17⟩ := cur17.row
   have hy17 := OT.cell oy17
   have es17 := BY hblk17
   subst es17
   repeat (first | rw [ko] | rw [kr] | simp -dsimp -implicitDefEqProofs only [go_sem, sQ1, q1, CN, Int.toNat_natCast, Av, hblk14, hw14, v14, hblk15, hw15, v15, hblk16, hw16, v16, hblk17, hget17])
   refine AA (Am oy17 bly17 ⟨by omega, by omega⟩) ?_
   rintro _ g17 ⟨k17, x17, rfl, lo17, hi17, o17, hh17, nn17, fr17⟩
   have cur18 := fin17 g17 _ o17 nn17 fr17
   obtain ⟨cs18, y18, bb18, hblk18, hlt18, hget18, oy18, bly18, fin18⟩ := cur18.row
   have hy18 := OT.cell oy18
   repeat (first | rw [ko] | rw [kr] | simp -dsimp -implicitDefEqProofs only [go_sem, sQ1, q1, CN, Int.toNat_natCast, Av, hblk18, hget18])
   refine AA (Am oy18 bly18 ⟨by omega, by omega⟩) ?_
   rintro _ g18 ⟨k18, x18, rfl, lo18, hi18, o18, hh18, nn18, fr18⟩
   have cur19 := fin18 g18 _ o18 nn18 fr18
   obtain ⟨cs19, hblk19, hlt19, ⟨_, hget19⟩, hput19⟩ := cur19.put
   obtain ⟨cw19, hw19, cur20⟩ := hput19 (.int .i64 (k18)) rfl
   try simp only [set_set] at cur20
   have v19 : IntKind.i64.wrap (k18 + 1) = k18 + 1 := by rw [wrap_i64] <;> omega
   obtain ⟨cs20, hblk20, hlt20, ⟨_, hget20⟩, hput20⟩ := cur20.put
   obtain ⟨cw20, hw20, cur21⟩ := hput20 (.int .i64 (k18 + 1)) rfl
   have es20 := BY hblk20
   subst es20
   try simp only [set_set] at cur21
   have v20 : IntKind.i64.wrap (k18 + 1 + 1) = k18 + 1 + 1 := by rw [wrap_i64] <;> omega
   obtain ⟨cs21, y21, bb21, hblk21, hlt21, hget21, oy21, bly21, fin21⟩ := cur21.row
   have hy21 := OT.cell oy21
   have es21 := BY hblk21
   subst es21
   repeat (first | rw [ko] | rw [kr] | simp -dsimp -implicitDefEqProofs only [go_sem, sQ1, q1, CN, Int.toNat_natCast, Av, hblk19, hw19, v19, hblk20, hw20, v20, hblk21, hget21])
   refine AA (CT oy21 bly21 ⟨by omega, by omega⟩) ?_
   rintro _ g21 ⟨k21, x21, rfl, lo21, hi21, o21, hh21, nn21, fr21⟩
   have cur22 := fin21 g21 _ o21 nn21 fr21
   obtain ⟨cs22, hblk22, hlt22, ⟨_, hget22⟩, hput22⟩ := cur22.put
   obtain ⟨cw22, hw22, cur23⟩ := hput22 (.int .i64 (k21)) rfl
   try simp only [set_set] at cur23
   have v22 : IntKind.i64.wrap (k21 + 1) = k21 + 1 := by rw [wrap_i64] <;> omega
   obtain ⟨cs23, y23, bb23, hblk23, hlt23, hget23, oy23, bly23, fin23⟩ := cur23.row
   have hy23 := OT.cell oy23
   have es23 := BY hblk23
   subst es23
   repeat (first | rw [ko] | rw [kr] | simp -dsimp -implicitDefEqProofs only [go_sem, sQ1, q1, CN, Int.toNat_natCast, Av, hblk22, hw22, v22, hblk23, hget23])
   refine AA (Am oy23 bly23 ⟨by omega, by omega⟩) ?_
   rintro _ g23 ⟨k23, x23, rfl, lo23, hi23, o23, hh23, nn23, fr23⟩
   have cur24 := fin23 g23 _ o23 nn23 fr23
   obtain ⟨cs24, y24, bb24, hblk24, hlt24, hget24, oy24, bly24, fin24⟩ := cur24.row
   have hy24 := OT.cell oy24
   repeat (first | rw [ko] | rw [kr] | simp -dsimp -implicitDefEqProofs only [go_sem, sQ1, q1, CN, Int.toNat_natCast, Av, hblk24, hget24])
   refine AA (Am oy24 bly24 ⟨by omega, by omega⟩) ?_
   rintro _ g24 ⟨k24, x24, rfl, lo24, hi24, o24, hh24, nn24, fr24⟩
   have cur25 := fin24 g24 _ o24 nn24 fr24
   obtain ⟨cs25, hblk25, hlt25, ⟨_, hget25⟩, hput25⟩ := cur25.put
   obtain ⟨cw25, hw25, cur26⟩ := hput25 (.int .i64 (k24)) rfl
   try simp only [set_set] at cur26
   have v25 : IntKind.i64.wrap (k24 + 1) = k24 + 1 := by rw [wrap_i64] <;> omega
   obtain ⟨cs26, hblk26, hlt26, ⟨_, hget26⟩, hput26⟩ := cur26.put
   obtain ⟨cw26, hw26, cur27⟩ := hput26 (.int .i64 (k24 + 1)) rfl
   have es26 := BY hblk26
   subst es26
   try simp only [set_set] at cur27
   have v26 : IntKind.i64.wrap (k24 + 1 + 1) = k24 + 1 + 1 := by rw [wrap_i64] <;> omega
   obtain ⟨cs27, hblk27, hlt27, ⟨_, hget27⟩, hput27⟩ := cur27.put
   obtain ⟨cw27, hw27, cur28⟩ := hput27 (.int .i64 (k24 + 1 + 1)) rfl
   have es27 := BY hblk27
   subst es27
   try simp only [set_set] at cur28
   have v27 : IntKind.i64.wrap (k24 + 1 + 1 + 1) = k24 + 1 + 1 + 1 := by rw [wrap_i64] <;> omega
   obtain ⟨cs28, y28, bb28, hblk28, hlt28, hget28, oy28, bly28, fin28⟩ := cur28.row
   have hy28 := OT.cell oy28
   have es28 := BY hblk28
   subst es28
   repeat (first | rw [ko] | rw [kr] | simp -dsimp -implicitDefEqProofs only [go_sem, sQ1, q1, CN, Int.toNat_natCast, Av, hblk25, hw25, v25, hblk26, hw26, v26, hblk27, hw27, v27, hblk28, hget28])
   refine AA (Am oy28 bly28 ⟨by omega, by omega⟩) ?_
   rintro _ g28 ⟨k28, x28, rfl, lo28, hi28, o28, hh28, nn28, fr28⟩
   have cur29 := fin28 g28 _ o28 nn28 fr28
   obtain ⟨cs29, y29, bb29, hblk29, hlt29, hget29, oy29, bly29, fin29⟩ := cur29.row
   have hy29 := OT.cell oy29
   repeat (first | rw [ko] | rw [kr] | simp -dsimp -implicitDefEqProofs only [go_sem, sQ1, q1, CN, Int.toNat_natCast, Av, hblk29, hget29])
   refine AA (Am oy29 bly29 ⟨by omega, by omega⟩) ?_
   rintro _ g29 ⟨k29, x29, rfl, lo29, hi29, o29, hh29, nn29, fr29⟩
   have cur30 := fin29 g29 _ o29 nn29 fr29
   obtain ⟨cs30, hblk30, hlt30, ⟨_, hget30⟩, hput30⟩ := cur30.put
   obtain ⟨cw30, hw30, cur31⟩ := hput30 (.int .i64 (k29)) rfl
   try simp only [set_set] at cur31
   have v30 : IntKind.i64.wrap (k29 + 1) = k29 + 1 := by rw [wrap_i64] <;> omega
   obtain ⟨cs31, hblk31, hlt31, ⟨_, hget31⟩, hput31⟩ := cur31.put
   obtain ⟨cw31, hw31, cur32⟩ := hput31 (.int .i64 (k29 + 1)) rfl
   have es31 := BY hblk31
   subst es31
   try simp only [set_set] at cur32
   have v31 : IntKind.i64.wrap (k29 + 1 + 1) = k29 + 1 + 1 := by rw [wrap_i64] <;> omega
   repeat (first | rw [ko] | rw [kr] | simp -dsimp -implicitDefEqProofs only [go_sem, sQ1, q1, CN, Int.toNat_natCast, Av, w1, hblk30, hw30, v30, hblk31, hw31, v31])
   refine AI (m - 1) (by omega) AL ⟨i + 1, k29 + 1 + 1, c' ++ [(⟨x0, ⟨k0, x2, x3, k3, k3 + 1⟩, ⟨k3 + 1 + 1, x7, x8, k8, k8 + 1⟩, ⟨k8 + 1 + 1, x12, x13, k13, k13 + 1⟩, ⟨k13 + 1 + 1, x17, x18, k18, k18 + 1⟩, x21, ⟨k21, x23, x24, k24, k24 + 1⟩, ⟨k24 + 1 + 1, x28, x29, k29, k29 + 1⟩⟩ : Aj)], AL, AL, by omega, by simp [hcl], cur32.cast (by omega) (by simp [DP, List.append_assoc]) rfl, ch.snoc ⟨k0, k2, k3, k7, k8, k12, k13, k17, k18, k21, k23, k24, k28, k29, ⟨hh0, lo0⟩, rfl, ⟨hh2, lo2⟩, ⟨hh3, lo3⟩, rfl, rfl, rfl, ⟨hh7, lo7⟩, ⟨hh8, lo8⟩, rfl, rfl, rfl, ⟨hh12, lo12⟩, ⟨hh13, lo13⟩, rfl, rfl, rfl, ⟨hh17, lo17⟩, ⟨hh18, lo18⟩, rfl, rfl, ⟨hh21, lo21⟩, rfl, ⟨hh23, lo23⟩, ⟨hh24, lo24⟩, rfl, rfl, rfl, ⟨hh28, lo28⟩, ⟨hh29, lo29⟩, rfl, rfl, rfl, by omega, by omega⟩ (by omega), by omega, by omega⟩
  ·refine Cu hks e5 e1 q1 ?_
   have hi3 : i = zs.length := by omega
   rw [hi3] at cur0 hi
   rw [List.take_length] at hi
   rw [List.drop_length] at cur0
   have hcl2 : (Af c').length = zs.length := by rw [HR, hcl, hi3]
   obtain ⟨f1, f2, f3⟩ := FA.full (es := Af c') cur0 (by rw [hcl2]) (fun e he => by
    obtain ⟨x, _, rfl⟩ := List.mem_map.1 he
    exact hE x)
   rw [hcl2] at f1
   exact ⟨a, c', rfl, lo, hi, f1, IF ch (by rw [hcl]; omega), f2, f3⟩
end Go.Bi
end
section
set_option maxRecDepth 20000
namespace Go.Bi
open Go.Proofs
open Go.Ai (wrap_i64 wrap_u64 wrap_u8)
variable {W0 : World} {P : Program}
set_option maxHeartbeats 4000000
theorem NB {N : Nat} {c : AR} {h : H2} {k0 : Int} {b1 b2 : List Nat} {s1 s2 : X} (o1 : OT h b1 s1 (.l 1 (AE c.rows))) (o2 : OT h b2 s2 (.l 1 (AE c.scales))) (bl : Bl N (hn h .mk) (b1 ++ b2)) (hk : 0 ≤ k0 ∧ k0 + 64 * A0 c ≤ 4611686018427387904) : A7 Tryz.prog W0 74 [.st [.raw (.int .i64 c.width), s1, s2, .raw (.int .i64 c.mul), .raw (.int .i64 c.shift)], .raw (.int .i64 k0)] h (fun r h' => ∃ (k1 : Int) (z1 : List (List Int)) (z2 : List (List Int)), r = .raw (.int .i64 k1) ∧ k0 ≤ k1 ∧ k1 ≤ k0 + 64 * A0 c ∧ (OT h' b1 s1 (.l 1 (AE z1)) ∧ OT h' b2 s2 (.l 1 (AE z2))) ∧ (True) ∧ hn h .mk ≤ hn h' .mk ∧ ∀ b, b < hn h .mk → b ∉ (b1 ++ b2) → h'.get b = h.get b) := by
 unfold A0 at *
 obtain ⟨bl0, rb0, D0⟩ := bl.split
 have bl1 := rb0
 have lj1 := bl0
 have lj2 := bl1
 refine AH [[0, 1], [1, 2], [1, 2], [1]] Tryz.func74 rfl (rs := [.tmp 4]) rfl rfl ?_
 intro wf
 refine zr ?_
 replace o1 := fun k => OT.keep o1 (H2.le_push1 h k) lj1
 replace o2 := fun k => OT.keep o2 (H2.le_push1 h k) lj2
 refine AA (Am (o1 _) (bl0.wide (Nat.le_refl _) (by simp only [AB]; omega)) ⟨by omega, by omega⟩) ?_
 rintro _ g1 ⟨k1, z1, rfl, lo1, hi1, d1, hd1, n1, fr1⟩
 simp only [AB] at n1
 have a1 : hg g1 (hn h .mk) .mk = _ := fr1 (hn h .mk) (by simp only [AB]; omega) (fun hb => by have := (bl0.2 _ hb).2; omega)
 replace a1 : hg g1 (hn h .mk) .mk = hg (h.push _) (hn h .mk) .mk := a1
 simp -dsimp -implicitDefEqProofs only [go_sem, Av] at a1
 replace o2 := OT.frame (g' := g1) (o2 _) fun b hb => fr1 b (by have := (lj2.2 b hb).2; simp only [AB]; omega) (fun hx => D0 b hx (by simp [hb]))
 refine A1 a1 ?_
 refine AA (Am (o2) (bl1.wide (Nat.le_refl _) (by omega)) ⟨by omega, by omega⟩) ?_
 rintro _ g2 ⟨k2, z2, rfl, lo2, hi2, d2, hd2, n2, fr2⟩
 have a2 : hg g2 (hn h .mk) .mk = _ := fr2 (hn h .mk) (by omega) (fun hb => by have := (bl1.2 _ hb).2; omega)
 replace a2 : hg g2 (hn h .mk) .mk = hg g1 (hn h .mk) .mk := a2
 simp -dsimp -implicitDefEqProofs only [go_sem, a1] at a2
 replace d1 := OT.frame (g' := g2) d1 fun b hb => fr2 b (by have := (lj1.2 b hb).2; omega) (fun hx => D0 b (by simp [hb]) (by first | (simp [hx]; done) | (simp only [List.mem_append] at hx ⊢; rcases hx with hx | hx <;> simp [hx])))
 refine zr ?_
 refine ⟨k2, z1, z2, rfl, by omega, by omega, ⟨d1, d2⟩, trivial, by omega, fun b hb hnb => ?_⟩
 simp only [List.mem_append, not_or] at hnb
 rw [fr2 b (by omega) hnb.2]
 rw [fr1 b (by simp only [AB]; omega) hnb.1]
 simp only [H2.push]; rw [if_neg (by unfold hn at hb; omega)]
theorem N3 {N : Nat} {c : CD} {h : H2} {k0 : Int} {b0 b1 : List Nat} {s0 s1 : X} (o0 : OT h b0 s0 (.l 1 (AE c.cos))) (o1 : OT h b1 s1 (.l 1 (AE c.sin))) (bl : Bl N (hn h .mk) (b0 ++ b1)) (hk : 0 ≤ k0 ∧ k0 + 64 * EV c ≤ 4611686018427387904) : A7 Tryz.prog W0 75 [.st [s0, s1], .raw (.int .i64 k0)] h (fun r h' => ∃ (k1 : Int) (z0 : List (List Int)) (z1 : List (List Int)), r = .raw (.int .i64 k1) ∧ k0 ≤ k1 ∧ k1 ≤ k0 + 64 * EV c ∧ (OT h' b0 s0 (.l 1 (AE z0)) ∧ OT h' b1 s1 (.l 1 (AE z1))) ∧ (True) ∧ hn h .mk ≤ hn h' .mk ∧ ∀ b, b < hn h .mk → b ∉ (b0 ++ b1) → h'.get b = h.get b) := by
 unfold EV at *
 obtain ⟨bl0, rb0, D0⟩ := bl.split
 have bl1 := rb0
 have lj0 := bl0
 have lj1 := bl1
 refine AH [[0, 1], [1, 2], [1, 2], [1]] Tryz.func75 rfl (rs := [.tmp 4]) rfl rfl ?_
 intro wf
 refine zr ?_
 replace o0 := fun k => OT.keep o0 (H2.le_push1 h k) lj0
 replace o1 := fun k => OT.keep o1 (H2.le_push1 h k) lj1
 refine AA (Am (o0 _) (bl0.wide (Nat.le_refl _) (by simp only [AB]; omega)) ⟨by omega, by omega⟩) ?_
 rintro _ g0 ⟨k1, z0, rfl, lo0, hi0, d0, hd0, n0, fr0⟩
 simp only [AB] at n0
 have a0 : hg g0 (hn h .mk) .mk = _ := fr0 (hn h .mk) (by simp only [AB]; omega) (fun hb => by have := (bl0.2 _ hb).2; omega)
 replace a0 : hg g0 (hn h .mk) .mk = hg (h.push _) (hn h .mk) .mk := a0
 simp -dsimp -implicitDefEqProofs only [go_sem, Av] at a0
 replace o1 := OT.frame (g' := g0) (o1 _) fun b hb => fr0 b (by have := (lj1.2 b hb).2; simp only [AB]; omega) (fun hx => D0 b hx (by simp [hb]))
 refine A1 a0 ?_
 refine AA (Am (o1) (bl1.wide (Nat.le_refl _) (by omega)) ⟨by omega, by omega⟩) ?_
 rintro _ g1 ⟨k2, z1, rfl, lo1, hi1, d1, hd1, n1, fr1⟩
 have a1 : hg g1 (hn h .mk) .mk = _ := fr1 (hn h .mk) (by omega) (fun hb => by have := (bl1.2 _ hb).2; omega)
 replace a1 : hg g1 (hn h .mk) .mk = hg g0 (hn h .mk) .mk := a1
 simp -dsimp -implicitDefEqProofs only [go_sem, a0] at a1
 replace d0 := OT.frame (g' := g1) d0 fun b hb => fr1 b (by have := (lj0.2 b hb).2; omega) (fun hx => D0 b (by simp [hb]) (by first | (simp [hx]; done) | (simp only [List.mem_append] at hx ⊢; rcases hx with hx | hx <;> simp [hx])))
 refine zr ?_
 refine ⟨k2, z0, z1, rfl, by omega, by omega, ⟨d0, d1⟩, trivial, by omega, fun b hb hnb => ?_⟩
 simp only [List.mem_append, not_or] at hnb
 rw [fr1 b (by omega) hnb.2]
 rw [fr0 b (by simp only [AB]; omega) hnb.1]
 simp only [H2.push]; rw [if_neg (by unfold hn at hb; omega)]
theorem N0 {N : Nat} {c : AM} {h : H2} {k0 : Int} {b3 b4 b5 b6 b8 b9 b12 b13 : List Nat} {s3 s4 s5 s6 s8 s9 s12 s13 : X} (o3 : OT h b3 s3 (.l 2 (AY c.merges))) (o4 : OT h b4 s4 (.l 1 (AE c.embed))) (o5 : OT h b5 s5 (.l 32 (Af c.layers))) (o6 : OT h b6 s6 (.l 1 (ints c.gainEnd))) (o8 : OT h b8 s8 (.l 1 (AE c.head.rows))) (o9 : OT h b9 s9 (.l 1 (AE c.head.scales))) (o12 : OT h b12 s12 (.l 1 (AE c.turns.cos))) (o13 : OT h b13 s13 (.l 1 (AE c.turns.sin))) (bl : Bl N (hn h .mk) (b3 ++ (b4 ++ (b5 ++ (b6 ++ (b8 ++ (b9 ++ (b12 ++ b13)))))))) (hk : 0 ≤ k0 ∧ k0 + 64 * DB c ≤ 4611686018427387904) : A7 Tryz.prog W0 19 [.st [.raw (.int .i64 c.dim), .raw (.int .i64 c.heads), .raw (.int .i64 c.context), s3, s4, s5, s6, .raw (.int .i64 c.head.width), s8, s9, .raw (.int .i64 c.head.mul), .raw (.int .i64 c.head.shift), s12, s13], .raw (.int .i64 k0)] h (fun r h' => ∃ (k1 : Int) (z3 : List Ae) (z4 : List (List Int)) (z5 : List Aj) (z6 : List Int) (z8 : List (List Int)) (z9 : List (List Int)) (z12 : List (List Int)) (z13 : List (List Int)), r = .raw (.int .i64 k1) ∧ k0 ≤ k1 ∧ k1 ≤ k0 + 64 * DB c ∧ (OT h' b3 s3 (.l 2 (AY z3)) ∧ OT h' b4 s4 (.l 1 (AE z4)) ∧ OT h' b5 s5 (.l 32 (Af z5)) ∧ OT h' b6 s6 (.l 1 (ints z6)) ∧ OT h' b8 s8 (.l 1 (AE z8)) ∧ OT h' b9 s9 (.l 1 (AE z9)) ∧ OT h' b12 s12 (.l 1 (AE z12)) ∧ OT h' b13 s13 (.l 1 (AE z13))) ∧ (True) ∧ hn h .mk ≤ hn h' .mk ∧ ∀ b, b < hn h .mk → b ∉ (b3 ++ (b4 ++ (b5 ++ (b6 ++ (b8 ++ (b9 ++ (b12 ++ b13))))))) → h'.get b = h.get b) := by
 unfold DB at *
 replace bl : Bl N (hn h .mk) (b3 ++ (b4 ++ (b5 ++ (b6 ++ ((b8 ++ b9) ++ (b12 ++ b13)))))) := by simpa only [List.append_assoc] using bl
 obtain ⟨bl0, rb0, D0⟩ := bl.split
 obtain ⟨bl1, rb1, D1⟩ := rb0.split
 obtain ⟨bl2, rb2, D2⟩ := rb1.split
 obtain ⟨bl3, rb3, D3⟩ := rb2.split
 obtain ⟨bl4, rb4, D4⟩ := rb3.split
 have bl5 := rb4
 have lj3 := bl0
 have lj4 := bl1
 have lj5 := bl2
 have lj6 := bl3
 have lj8 := bl4.split.1
 have lj9 := bl4.split.2.1
 have lj12 := bl5.split.1
 have lj13 := bl5.split.2.1
 refine AH [[0, 1], [1, 2], [1, 2], [1, 2], [1, 2], [1, 2], [1, 2], [1]] Tryz.func19 rfl (rs := [.tmp 4]) rfl rfl ?_
 intro wf
 refine zr ?_
 replace o3 := fun k => OT.keep o3 (H2.le_push1 h k) lj3
 replace o4 := fun k => OT.keep o4 (H2.le_push1 h k) lj4
 replace o5 := fun k => OT.keep o5 (H2.le_push1 h k) lj5
 replace o6 := fun k => OT.keep o6 (H2.le_push1 h k) lj6
 replace o8 := fun k => OT.keep o8 (H2.le_push1 h k) lj8
 replace o9 := fun k => OT.keep o9 (H2.le_push1 h k) lj9
 replace o12 := fun k => OT.keep o12 (H2.le_push1 h k) lj12
 replace o13 := fun k => OT.keep o13 (H2.le_push1 h k) lj13
 refine AA (Kp (o3 _) (bl0.wide (Nat.le_refl _) (by simp only [AB]; omega)) ⟨by omega, by omega⟩) ?_
 rintro _ g3 ⟨k1, z3, rfl, lo3, hi3, d3, hd3, n3, fr3⟩
 simp only [AB] at n3
 have a3 : hg g3 (hn h .mk) .mk = _ := fr3 (hn h .mk) (by simp only [AB]; omega) (fun hb => by have := (bl0.2 _ hb).2; omega)
 replace a3 : hg g3 (hn h .mk) .mk = hg (h.push _) (hn h .mk) .mk := a3
 simp -dsimp -implicitDefEqProofs only [go_sem, Av] at a3
 replace o4 := OT.frame (g' := g3) (o4 _) fun b hb => fr3 b (by have := (lj4.2 b hb).2; simp only [AB]; omega) (fun hx => D0 b hx (by simp [hb]))
 replace o5 := OT.frame (g' := g3) (o5 _) fun b hb => fr3 b (by have := (lj5.2 b hb).2; simp only [AB]; omega) (fun hx => D0 b hx (by simp [hb]))
 replace o6 := OT.frame (g' := g3) (o6 _) fun b hb => fr3 b (by have := (lj6.2 b hb).2; simp only [AB]; omega) (fun hx => D0 b hx (by simp [hb]))
 replace o8 := OT.frame (g' := g3) (o8 _) fun b hb => fr3 b (by have := (lj8.2 b hb).2; simp only [AB]; omega) (fun hx => D0 b hx (by simp [hb]))
 replace o9 := OT.frame (g' := g3) (o9 _) fun b hb => fr3 b (by have := (lj9.2 b hb).2; simp only [AB]; omega) (fun hx => D0 b hx (by simp [hb]))
 replace o12 := OT.frame (g' := g3) (o12 _) fun b hb => fr3 b (by have := (lj12.2 b hb).2; simp only [AB]; omega) (fun hx => D0 b hx (by simp [hb]))
 replace o13 := OT.frame (g' := g3) (o13 _) fun b hb => fr3 b (by have := (lj13.2 b hb).2; simp only [AB]; omega) (fun hx => D0 b hx (by simp [hb]))
 refine A1 a3 ?_
 refine AA (Am (o4) (bl1.wide (Nat.le_refl _) (by omega)) ⟨by omega, by omega⟩) ?_
 rintro _ g4 ⟨k2, z4, rfl, lo4, hi4, d4, hd4, n4, fr4⟩
 have a4 : hg g4 (hn h .mk) .mk = _ := fr4 (hn h .mk) (by omega) (fun hb => by have := (bl1.2 _ hb).2; omega)
 replace a4 : hg g4 (hn h .mk) .mk = hg g3 (hn h .mk) .mk := a4
 simp -dsimp -implicitDefEqProofs only [go_sem, a3] at a4
 replace d3 := OT.frame (g' := g4) d3 fun b hb => fr4 b (by have := (lj3.2 b hb).2; omega) (fun hx => D0 b (by simp [hb]) (by first | (simp [hx]; done) | (simp only [List.mem_append] at hx ⊢; rcases hx with hx | hx <;> simp [hx])))
 replace o5 := OT.frame (g' := g4) (o5) fun b hb => fr4 b (by have := (lj5.2 b hb).2; omega) (fun hx => D1 b hx (by simp [hb]))
 replace o6 := OT.frame (g' := g4) (o6) fun b hb => fr4 b (by have := (lj6.2 b hb).2; omega) (fun hx => D1 b hx (by simp [hb]))
 replace o8 := OT.frame (g' := g4) (o8) fun b hb => fr4 b (by have := (lj8.2 b hb).2; omega) (fun hx => D1 b hx (by simp [hb]))
 replace o9 := OT.frame (g' := g4) (o9) fun b hb => fr4 b (by have := (lj9.2 b hb).2; omega) (fun hx => D1 b hx (by simp [hb]))
 replace o12 := OT.frame (g' := g4) (o12) fun b hb => fr4 b (by have := (lj12.2 b hb).2; omega) (fun hx => D1 b hx (by simp [hb]))
 replace o13 := OT.frame (g' := g4) (o13) fun b hb => fr4 b (by have := (lj13.2 b hb).2; omega) (fun hx => D1 b hx (by simp [hb]))
 refine A1 a4 ?_
 refine AA (Kn (o5) (bl2.wide (Nat.le_refl _) (by omega)) ⟨by omega, by omega⟩) ?_
 rintro _ g5 ⟨k3, z5, rfl, lo5, hi5, d5, hd5, n5, fr5⟩
 have a5 : hg g5 (hn h .mk) .mk = _ := fr5 (hn h .mk) (by omega) (fun hb => by have := (bl2.2 _ hb).2; omega)
 replace a5 : hg g5 (hn h .mk) .mk = hg g4 (hn h .mk) .mk := a5
 simp -dsimp -implicitDefEqProofs only [go_sem, a4] at a5
 replace d3 := OT.frame (g' := g5) d3 fun b hb => fr5 b (by have := (lj3.2 b hb).2; omega) (fun hx => D0 b (by simp [hb]) (by first | (simp [hx]; done) | (simp only [List.mem_append] at hx ⊢; rcases hx with hx | hx <;> simp [hx])))
 replace d4 := OT.frame (g' := g5) d4 fun b hb => fr5 b (by have := (lj4.2 b hb).2; omega) (fun hx => D1 b (by simp [hb]) (by first | (simp [hx]; done) | (simp only [List.mem_append] at hx ⊢; rcases hx with hx | hx <;> simp [hx])))
 replace o6 := OT.frame (g' := g5) (o6) fun b hb => fr5 b (by have := (lj6.2 b hb).2; omega) (fun hx => D2 b hx (by simp [hb]))
 replace o8 := OT.frame (g' := g5) (o8) fun b hb => fr5 b (by have := (lj8.2 b hb).2; omega) (fun hx => D2 b hx (by simp [hb]))
 replace o9 := OT.frame (g' := g5) (o9) fun b hb => fr5 b (by have := (lj9.2 b hb).2; omega) (fun hx => D2 b hx (by simp [hb]))
 replace o12 := OT.frame (g' := g5) (o12) fun b hb => fr5 b (by have := (lj12.2 b hb).2; omega) (fun hx => D2 b hx (by simp [hb]))
 replace o13 := OT.frame (g' := g5) (o13) fun b hb => fr5 b (by have := (lj13.2 b hb).2; omega) (fun hx => D2 b hx (by simp [hb]))
 refine A1 a5 ?_
 refine AA (CT (o6) (bl3.wide (Nat.le_refl _) (by omega)) ⟨by omega, by omega⟩) ?_
 rintro _ g6 ⟨k4, z6, rfl, lo6, hi6, d6, hd6, n6, fr6⟩
 have a6 : hg g6 (hn h .mk) .mk = _ := fr6 (hn h .mk) (by omega) (fun hb => by have := (bl3.2 _ hb).2; omega)
 replace a6 : hg g6 (hn h .mk) .mk = hg g5 (hn h .mk) .mk := a6
 simp -dsimp -implicitDefEqProofs only [go_sem, a5] at a6
 replace d3 := OT.frame (g' := g6) d3 fun b hb => fr6 b (by have := (lj3.2 b hb).2; omega) (fun hx => D0 b (by simp [hb]) (by first | (simp [hx]; done) | (simp only [List.mem_append] at hx ⊢; rcases hx with hx | hx <;> simp [hx])))
 replace d4 := OT.frame (g' := g6) d4 fun b hb => fr6 b (by have := (lj4.2 b hb).2; omega) (fun hx => D1 b (by simp [hb]) (by first | (simp [hx]; done) | (simp only [List.mem_append] at hx ⊢; rcases hx with hx | hx <;> simp [hx])))
 replace d5 := OT.frame (g' := g6) d5 fun b hb => fr6 b (by have := (lj5.2 b hb).2; omega) (fun hx => D2 b (by simp [hb]) (by first | (simp [hx]; done) | (simp only [List.mem_append] at hx ⊢; rcases hx with hx | hx <;> simp [hx])))
 replace o8 := OT.frame (g' := g6) (o8) fun b hb => fr6 b (by have := (lj8.2 b hb).2; omega) (fun hx => D3 b hx (by simp [hb]))
 replace o9 := OT.frame (g' := g6) (o9) fun b hb => fr6 b (by have := (lj9.2 b hb).2; omega) (fun hx => D3 b hx (by simp [hb]))
 replace o12 := OT.frame (g' := g6) (o12) fun b hb => fr6 b (by have := (lj12.2 b hb).2; omega) (fun hx => D3 b hx (by simp [hb]))
 replace o13 := OT.frame (g' := g6) (o13) fun b hb => fr6 b (by have := (lj13.2 b hb).2; omega) (fun hx => D3 b hx (by simp [hb]))
 refine A1 a6 ?_
 refine AA (NB (c := c.head) (o8) (o9) (bl4.wide (Nat.le_refl _) (by omega)) ⟨by omega, by omega⟩) ?_
 rintro _ g7 ⟨k5, z8, z9, rfl, lo7, hi7, ⟨d8, d9⟩, hd7, n7, fr7⟩
 have a7 : hg g7 (hn h .mk) .mk = _ := fr7 (hn h .mk) (by omega) (fun hb => by have := (bl4.2 _ hb).2; omega)
 replace a7 : hg g7 (hn h .mk) .mk = hg g6 (hn h .mk) .mk := a7
 simp -dsimp -implicitDefEqProofs only [go_sem, a6] at a7
 replace d3 := OT.frame (g' := g7) d3 fun b hb => fr7 b (by have := (lj3.2 b hb).2; omega) (fun hx => D0 b (by simp [hb]) (by first | (simp []; done) | (simp only [List.mem_append] at hx ⊢; rcases hx with hx | hx <;> simp [hx])))
 replace d4 := OT.frame (g' := g7) d4 fun b hb => fr7 b (by have := (lj4.2 b hb).2; omega) (fun hx => D1 b (by simp [hb]) (by first | (simp []; done) | (simp only [List.mem_append] at hx ⊢; rcases hx with hx | hx <;> simp [hx])))
 replace d5 := OT.frame (g' := g7) d5 fun b hb => fr7 b (by have := (lj5.2 b hb).2; omega) (fun hx => D2 b (by simp [hb]) (by first | (simp []; done) | (simp only [List.mem_append] at hx ⊢; rcases hx with hx | hx <;> simp [hx])))
 replace d6 := OT.frame (g' := g7) d6 fun b hb => fr7 b (by have := (lj6.2 b hb).2; omega) (fun hx => D3 b (by simp [hb]) (by first | (simp []; done) | (simp only [List.mem_append] at hx ⊢; rcases hx with hx | hx <;> simp [hx])))
 replace o12 := OT.frame (g' := g7) (o12) fun b hb => fr7 b (by have := (lj12.2 b hb).2; omega) (fun hx => D4 b hx (by simp [hb]))
 replace o13 := OT.frame (g' := g7) (o13) fun b hb => fr7 b (by have := (lj13.2 b hb).2; omega) (fun hx => D4 b hx (by simp [hb]))
 refine A1 a7 ?_
 refine AA (N3 (c := c.turns) (o12) (o13) (bl5.wide (Nat.le_refl _) (by omega)) ⟨by omega, by omega⟩) ?_
 rintro _ g8 ⟨k6, z12, z13, rfl, lo8, hi8, ⟨d12, d13⟩, hd8, n8, fr8⟩
 have a8 : hg g8 (hn h .mk) .mk = _ := fr8 (hn h .mk) (by omega) (fun hb => by have := (bl5.2 _ hb).2; omega)
 replace a8 : hg g8 (hn h .mk) .mk = hg g7 (hn h .mk) .mk := a8
 simp -dsimp -implicitDefEqProofs only [go_sem, a7] at a8
 replace d3 := OT.frame (g' := g8) d3 fun b hb => fr8 b (by have := (lj3.2 b hb).2; omega) (fun hx => D0 b (by simp [hb]) (by first | (simp [hx]; done) | (simp only [List.mem_append] at hx ⊢; rcases hx with hx | hx <;> simp [hx])))
 replace d4 := OT.frame (g' := g8) d4 fun b hb => fr8 b (by have := (lj4.2 b hb).2; omega) (fun hx => D1 b (by simp [hb]) (by first | (simp [hx]; done) | (simp only [List.mem_append] at hx ⊢; rcases hx with hx | hx <;> simp [hx])))
 replace d5 := OT.frame (g' := g8) d5 fun b hb => fr8 b (by have := (lj5.2 b hb).2; omega) (fun hx => D2 b (by simp [hb]) (by first | (simp [hx]; done) | (simp only [List.mem_append] at hx ⊢; rcases hx with hx | hx <;> simp [hx])))
 replace d6 := OT.frame (g' := g8) d6 fun b hb => fr8 b (by have := (lj6.2 b hb).2; omega) (fun hx => D3 b (by simp [hb]) (by first | (simp [hx]; done) | (simp only [List.mem_append] at hx ⊢; rcases hx with hx | hx <;> simp [hx])))
 replace d8 := OT.frame (g' := g8) d8 fun b hb => fr8 b (by have := (lj8.2 b hb).2; omega) (fun hx => D4 b (by simp [hb]) (by first | (simp [hx]; done) | (simp only [List.mem_append] at hx ⊢; rcases hx with hx | hx <;> simp [hx])))
 replace d9 := OT.frame (g' := g8) d9 fun b hb => fr8 b (by have := (lj9.2 b hb).2; omega) (fun hx => D4 b (by simp [hb]) (by first | (simp [hx]; done) | (simp only [List.mem_append] at hx ⊢; rcases hx with hx | hx <;> simp [hx])))
 refine zr ?_
 refine ⟨k6, z3, z4, z5, z6, z8, z9, z12, z13, rfl, by omega, by omega, ⟨d3, d4, d5, d6, d8, d9, d12, d13⟩, trivial, by omega, fun b hb hnb => ?_⟩
 replace hnb : b ∉ (b3 ++ (b4 ++ (b5 ++ (b6 ++ ((b8 ++ b9) ++ (b12 ++ b13)))))) := by simpa only [List.append_assoc] using hnb
 simp only [List.mem_append, not_or] at hnb
 rw [fr8 b (by omega) (by simp [hnb.2.2.2.2.2])]
 rw [fr7 b (by omega) (by simp [hnb.2.2.2.2.1])]
 rw [fr6 b (by omega) hnb.2.2.2.1]
 rw [fr5 b (by omega) hnb.2.2.1]
 rw [fr4 b (by omega) hnb.2.1]
 rw [fr3 b (by simp only [AB]; omega) hnb.1]
 simp only [H2.push]; rw [if_neg (by unfold hn at hb; omega)]
end Go.Bi
end
section
set_option maxRecDepth 20000
set_option maxHeartbeats 8000000
namespace Go.Bi
open Go.Proofs
open Go.Ai (wrap_i64 wrap_u64 wrap_u8 Heap)
variable {W0 : World} {P : Program}
theorem Jb {N : Nat} {bs : List Nat} {v : X} {zs : List ByteArray} {h : H2} {k0 : Int} (o : OT h bs v (.l 1 (strs zs))) (bl : Bl N (hn h .mk) bs) (hk : 0 ≤ k0 ∧ k0 + zs.length ≤ 4611686018427387904) :
  A7 Tryz.prog W0 93 [v, .raw (.int .i64 k0)] h (fun r h' => ∃ (k1 : Int) (c' : List ByteArray), r = .raw (.int .i64 k1) ∧ k0 ≤ k1 ∧ k1 ≤ k0 + zs.length ∧ OT h' bs v (.l 1 (strs c')) ∧ True ∧ hn h .mk ≤ hn h' .mk ∧ ∀ b, b < hn h .mk → b ∉ bs → h'.get b = h.get b) := by
 refine (LJ (o.ownS bl) (by omega)).mono ?_
 rintro r h' ⟨rfl, ow, hn', fr⟩
 refine ⟨_, HZ k0 zs.length, rfl, by omega, by omega, ?_, trivial, hn', fun b _ hb => fr b fun e => hb (o.block e)⟩
 obtain ⟨bs', o', bl'⟩ := ow.tree
 have : bs' = bs := by
  generalize ht : T.l 1 (strs (HZ k0 zs.length)) = t at o'
  generalize ht2 : T.l 1 (strs zs) = t2 at o
  cases o' with
  | raw => cases ht
  | nil => cases o with | nil => rfl | raw => cases ht2
  | row p1 p2 p3 p4 p5 =>
   cases o with
   | raw => cases ht2
   | row q1 q2 q3 q4 q5 =>
    simp only [T.l.injEq] at ht ht2
    obtain ⟨rfl, rfl⟩ := ht
    obtain ⟨rfl, rfl⟩ := ht2
    rw [XA, IZ] at p5 q5
    rw [Ak.raws_bs p5, Ak.raws_bs q5]
 rw [← this]; exact o'
theorem My {N : Nat} {c : Ac} {h : H2} {k0 : Int} {b3 : List Nat} {s3 : X} (o3 : OT h b3 s3 (.l 1 (strs c.stops))) (bl : Bl N (hn h .mk) b3) (hk : 0 ≤ k0 ∧ k0 + Eb c ≤ 4611686018427387904) : A7 Tryz.prog W0 38 [.st [.raw (.int .i64 c.top), .raw (.int .i64 c.seed), .raw (.int .i64 c.new), s3], .raw (.int .i64 k0)] h (fun r h' => ∃ (k1 : Int) (z3 : List ByteArray), r = .raw (.int .i64 k1) ∧ k0 ≤ k1 ∧ k1 ≤ k0 + Eb c ∧ (OT h' b3 s3 (.l 1 (strs z3))) ∧ hn h .mk ≤ hn h' .mk ∧ ∀ b, b < hn h .mk → b ∉ b3 → h'.get b = h.get b) := by
 unfold Eb at *
 have bl0 := bl
 have lj3 := bl0
 refine AH [[0, 1], [1, 2], [1]] Tryz.func38 rfl (rs := [.tmp 4]) rfl rfl ?_
 intro wf
 refine zr ?_
 replace o3 := fun k => OT.keep o3 (H2.le_push1 h k) lj3
 refine AA (Jb (o3 _) (bl0.wide (Nat.le_refl _) (by simp only [AB]; omega)) ⟨by omega, by omega⟩) ?_
 rintro _ g3 ⟨k1, z3, rfl, lo3, hi3, d3, hd3, n3, fr3⟩
 simp only [AB] at n3
 have a3 : hg g3 (hn h .mk) .mk = _ := fr3 (hn h .mk) (by simp only [AB]; omega) (fun hb => by have := (bl0.2 _ hb).2; omega)
 replace a3 : hg g3 (hn h .mk) .mk = hg (h.push _) (hn h .mk) .mk := a3
 simp -dsimp -implicitDefEqProofs only [go_sem, Av] at a3
 refine zr ?_
 refine ⟨k1, z3, rfl, by omega, by omega, d3, by omega, fun b hb hnb => ?_⟩
 rw [fr3 b (by simp only [AB]; omega) hnb]
 simp only [H2.push]; rw [if_neg (by unfold hn at hb; omega)]
theorem JA {g : H2} {bs : List Nat} {ys : List X} {c : Ac} (o : Ak g bs ys (Cr c)) : ∃ s3 , ys = [.raw (.int .i64 c.top), .raw (.int .i64 c.seed), .raw (.int .i64 c.new), s3] ∧ (A3 s3 = some [s3] ∧ FC s3 = true ∧ Bg s3 = false) := by
 obtain ⟨b3, s3, rfl, rfl, o3⟩ := NO o
 exact ⟨s3, rfl, o3.cell⟩
theorem J7 {N : Nat} {c : Ac} {h : H2} {k0 : Int} {bs : List Nat} {ys : List X} (o : Ak h bs ys (Cr c)) (bl : Bl N (hn h .mk) bs) (hk : 0 ≤ k0 ∧ k0 + Eb c ≤ 4611686018427387904) : A7 Tryz.prog W0 38 [.st ys, .raw (.int .i64 k0)] h (fun r h' => ∃ (k1 : Int) (c' : Ac), r = .raw (.int .i64 k1) ∧ k0 ≤ k1 ∧ k1 ≤ k0 + Eb c ∧ Ak h' bs ys (Cr c') ∧ hn h .mk ≤ hn h' .mk ∧ ∀ b, b < hn h .mk → b ∉ bs → h'.get b = h.get b) := by
 obtain ⟨b3, s3, rfl, rfl, o3⟩ := NO o
 refine (My (c := c) o3 bl hk).mono ?_
 rintro r h' ⟨k1, z3, h1, h2, h3, p3, h5, h6⟩
 exact ⟨k1, { c with stops := z3 }, h1, h2, h3, Nl (c := { c with stops := z3 }) p3, h5, h6⟩
theorem Kl {N : Nat} {c : AM} {h : H2} {k0 : Int} {bs : List Nat} {ys : List X} (o : Ak h bs ys (Dp c)) (bl : Bl N (hn h .mk) bs) (hk : 0 ≤ k0 ∧ k0 + 64 * DB c ≤ 4611686018427387904) : A7 Tryz.prog W0 19 [.st ys, .raw (.int .i64 k0)] h (fun r h' => ∃ (k1 : Int) (c' : AM), r = .raw (.int .i64 k1) ∧ k0 ≤ k1 ∧ k1 ≤ k0 + 64 * DB c ∧ Ak h' bs ys (Dp c') ∧ (True) ∧ hn h .mk ≤ hn h' .mk ∧ ∀ b, b < hn h .mk → b ∉ bs → h'.get b = h.get b) := by
 obtain ⟨b3, s3, b4, s4, b5, s5, b6, s6, b8, s8, b9, s9, b12, s12, b13, s13, rfl, rfl, o3, o4, o5, o6, o8, o9, o12, o13⟩ := Pn o
 refine (N0 (c := c) o3 o4 o5 o6 o8 o9 o12 o13 bl hk).mono ?_
 rintro r h' ⟨k1, z3, z4, z5, z6, z8, z9, z12, z13, h1, h2, h3, ⟨p3, p4, p5, p6, p8, p9, p12, p13⟩, h4, h5, h6⟩
 exact ⟨k1, { c with merges := z3, embed := z4, layers := z5, gainEnd := z6, head := { c.head with rows := z8, scales := z9 }, turns := { c.turns with cos := z12, sin := z13 } }, h1, h2, h3, Qd (c := { c with merges := z3, embed := z4, layers := z5, gainEnd := z6, head := { c.head with rows := z8, scales := z9 }, turns := { c.turns with cos := z12, sin := z13 } }) p3 p4 p5 p6 p8 p9 p12 p13, h4, h5, h6⟩
end Go.Bi
end
