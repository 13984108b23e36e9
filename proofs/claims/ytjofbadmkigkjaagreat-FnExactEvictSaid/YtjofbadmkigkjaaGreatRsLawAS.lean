/- Own lemmas that the theorem of this claim needs: the abstract machine and walks of functions. -/
import Derived.Test.YtjofbadmkigkjaaGreatRsLawAR
import Derived.Lib.IndexMore
import Derived.Test.YtjofbadmkigkjaaGreatProg
import Derived.Shelf.Strings.Shaped
set_option linter.unusedSimpArgs false
set_option linter.unusedVariables false
open Nat renaming reduceBEq → rq1, reduceAdd → rq2, reduceLeDiff → rq3, reduceMul → rq4
open Int renaming reduceLE → rq5, reduceLT → rq6, reduceBEq → rq7
section
set_option maxRecDepth 20000
namespace Go.Bi
open Go.Proofs
open Go.Ai (wrap_i64 wrap_u8)
variable {W0 : World} {P : Program}
set_option maxHeartbeats 8000000
theorem OTs.setT {g : H2} {x' : X} {t' : T} {b' : List Nat} : ∀ {ts : List T} {bs : List Nat} {xs : List X} {k : Nat}, OTs g bs xs ts → k < ts.length → OT g b' x' t' → bs.Nodup → b'.Nodup → (∀ x ∈ bs, x ∉ b') → ∃ bs', OTs g bs' (xs.set k x') (ts.set k t') ∧ bs'.Nodup ∧ ∀ x ∈ bs', x ∈ bs ∨ x ∈ b'
 | [], _, _, _, _, h, _, _, _, _ => absurd h (by simp)
 | t :: ts, _, _, k, o, h, o', n, n', d => by
  obtain ⟨b1, b2, y, ys, rfl, rfl, oy, os⟩ := OTs.head o
  obtain ⟨n1, n2, n3⟩ := List.nodup_append.1 n
  cases k with
  | zero =>
   refine ⟨b' ++ b2, OTs.cons o' os, List.nodup_append.2 ⟨n', n2, fun x hx y hy e => d y (by simp [hy]) (e ▸ hx)⟩, fun x hx => ?_⟩
   rcases List.mem_append.1 hx with hx | hx
   ·exact .inr hx
   ·exact .inl (by simp [hx])
  | succ k =>
   obtain ⟨bs', o2, m1, m2⟩ := os.setT (k := k) (by simpa using h) o' n2 n' (fun x hx => d x (by simp [hx]))
   refine ⟨b1 ++ bs', .cons oy o2, List.nodup_append.2 ⟨n1, m1, fun x hx y hy e => ?_⟩, fun x hx => ?_⟩
   ·subst e
    rcases m2 x hy with h | h
    ·exact n3 x hx x h rfl
    ·exact d x (by simp [hx]) h
   ·rcases List.mem_append.1 hx with hx | hx
    ·exact .inl (by simp [hx])
    ·rcases m2 x hx with h | h
     ·exact .inl (by simp [h])
     ·exact .inr h
theorem pages_row {g : H2} {bs : List Nat} {x : X} {ps : List (List LCell)} (o : OT g bs x (.l 1 (rCellSS ps))) (hz : 0 < ps.length) : ∃ q bs' cs, bs = q :: bs' ∧ x = .raw (.slice (some ⟨q, 0, none⟩) ps.length ps.length) ∧ hg g q .mk = some ⟨1, cs⟩ ∧ cs.length = ps.length ∧ OTs g bs' cs ((rCellSS ps).flatten) := by
 rcases o.inv with ⟨_, _, he⟩ | ⟨q2, bs2, cs2, rfl, rfl, hq2, hc2, hz2, oc2⟩
 ·have : ps = [] := by simpa [rCellSS] using he
  rw [this] at hz; simp at hz
 ·exact ⟨q2, bs2, cs2, rfl, by rw [rCellSS_len], hq2, by rw [hc2, rCellSS_len]; omega, oc2⟩
theorem get_set_ne {g : H2} {b x : Nat} {K : OB} (h : x ≠ b) : (g.set b K).get x = g.get x := if_neg h
theorem get_push_ne {g : H2} {K : OB} {x : Nat} (h : x ≠ hn g .mk) : (g.push K).get x = g.get x := if_neg h
structure Drs (N bx : Nat) (g0 : H2) (s : LStore) (h : H2) (sR sP : X) (bR bP : List Nat) : Prop where
 row : hg h bx .mk = some ⟨2, [sR, sP]⟩
 oR : OT h bR sR (.l 1 (ints s.refs))
 oP : OT h bP sP (.l 1 (rCellSS s.pages))
 bl : Bl N (hn h .mk) (bR ++ bP)
 nb : bx ∉ bR ++ bP
 lo : N ≤ bx
 hi : bx < hn h .mk
 fr : ∀ x, x < N → h.get x = g0.get x
theorem specDropTable_ok {F F' : Nat → Adr} {s : LStore} {t : LTable} {g : H2} (hs : szStore s ≤ 1048576) (ht : tableC s t = true) (hc : t.count ≤ 9223372036854775807) (hd : DropOk s t.pages) (hp : t.pages.length ≤ 1048576) :
  WC2 Tryz.prog W0 188 [.st (xStore F s), .st (xTable F' t)] g (fun x g' => g.le g' ∧ ∃ bs, RTup (eStore (dropAll s t.pages)) (.bool true) x g' bs ∧ Bl (hn g .mk) (hn g' .mk) bs) := by
 have hd1 := hd.1
 refine begins [[0, 1], [2, 3, 4], [4], [2, 3, 4], [3, 4, 6], [3, 4, 6, 7], [3, 4, 6, 7], [3, 4, 6, 7], [3, 4, 6, 7], [3, 4, 6, 7], [4, 6]] Tryz.func188 rfl (rs := [.cell 4 38, .tmp 5]) rfl rfl ?_
 intro wf
 have n01 : (hn g .mk == hn g .mk + 1) = false := by simp
 have n10 : (hn g .mk + 1 == hn g .mk) = false := by simp
 have n02 : (hn g .mk == hn g .mk + 1 + 1) = false := zne
 have n20 : (hn g .mk + 1 + 1 == hn g .mk) = false := zne
 have n12 : (hn g .mk + 1 == hn g .mk + 1 + 1) = false := by simp
 have n21 : (hn g .mk + 1 + 1 == hn g .mk + 1) = false := by simp
 repeat (first | rw [ko] | rw [kr] | simp -dsimp -implicitDefEqProofs only [go_sem, rq1, hoo, n01, n02, n12])
 refine pw_intro (specTable_ok (F := F) (F' := F') (by omega) hp hc) ?_
 rintro _ m0 hm0 rfl
 try simp only [hn_push] at hm0
 repeat (first | rw [ko] | rw [kr] | simp -dsimp -implicitDefEqProofs only [go_sem, rq1, ht, hoo, n01, n02])
 refine wz_intro (copyStore_new (F := F) hs) ?_
 rintro _ g1 ⟨l1, ys, bs, rfl, o1, bl1⟩
 try simp only [hn_up] at bl1
 have m1 := l1.1
 try simp only [hn_up] at m1
 have ra0 := l1.2 (hn g .mk) zau
 have ra1 := l1.2 (hn g .mk + 1) zau
 have ra2 := l1.2 (hn g .mk + 1 + 1) zau
 simp -dsimp -implicitDefEqProofs only [go_sem, hoo, n01, n02, n12] at ra0 ra1 ra2
 obtain ⟨b0, s0, b1, s1, rfl, rfl, oa, ob⟩ := invStore o1
 have hy1 := OT.cell oa
 have hy2 := OT.cell ob
 have n0 : (hn g .mk == hn g1 .mk) = false := zne
 have n0' : (hn g1 .mk == hn g .mk) = false := zne
 have n1 : (hn g .mk + 1 == hn g1 .mk) = false := zne
 have n1' : (hn g1 .mk == hn g .mk + 1) = false := zne
 have n2 : (hn g .mk + 1 + 1 == hn g1 .mk) = false := zne
 have n2' : (hn g1 .mk == hn g .mk + 1 + 1) = false := zne
 have L1 : g.le g1 := H2.le.trans zale l1
 repeat (first | rw [ko] | rw [kr] | simp -dsimp -implicitDefEqProofs only [go_sem, rq1, rq2, hy1, hy2, hoo])
 refine lz_keep [3, 4, 6] (fun m e2 h' => ∃ (i : Nat) (sR sP : X) (bR bP : List Nat), look e2 7 .mk = .raw (.int .i64 (i : Nat)) ∧ m + i = t.pages.length ∧ Drs (hn g .mk + 1 + 1 + 1) (hn g1 .mk) g1 (dropAll s (t.pages.take i)) h' sR sP bR bP) t.pages.length ?_ ?_
 ·refine ⟨0, s0, s1, b0, b1, zsm, by omega, ⟨by simp -dsimp -implicitDefEqProofs only [go_sem, hoo] <;> rfl, (oa.frame fun q hq => by have h1 := bl1.2 q (by simp [hq]); simp only [H2.push]; rw [if_neg (by unfold hn at *; omega)]), (ob.frame fun q hq => by have h1 := bl1.2 q (by simp [hq]); simp only [H2.push]; rw [if_neg (by unfold hn at *; omega)]), bl1.wide (by omega) (by simp only [hn_push]; omega), fun hx => by have := bl1.2 _ hx; omega, by omega, by simp only [hn_push]; omega, fun x hx => by simp only [H2.push]; rw [if_neg (by unfold hn at *; omega)]⟩⟩
 rintro m e2 h' hks ⟨i, sR, sP, bR, bP, ei, hm, d⟩
 simp -dsimp -implicitDefEqProofs only [go_sem] at hks
 obtain ⟨r3, oR, oP, bl, nb, lo, hi, fr⟩ := d
 have rr0 : hg h' (hn g .mk) .mk = _ := (fr (hn g .mk) (by omega)).trans ra0
 have rr1 : hg h' (hn g .mk + 1) .mk = _ := (fr (hn g .mk + 1) (by omega)).trans ra1
 have rr2 : hg h' (hn g .mk + 1 + 1) .mk = _ := (fr (hn g .mk + 1 + 1) (by omega)).trans ra2
 have hyR := OT.cell oR
 have hyP := OT.cell oP
 have blR := bl.split.1
 have blP := bl.split.2.1
 by_cases q1 : (i : Int) < (t.pages.length : Int)
 ·have q2 : i < t.pages.length := by omega
  have w1 := wrap_succ q2 (by omega)
  obtain ⟨p, e1, e2', e3, e4, e5, e6, e7, e8, e9⟩ := hd.now q2
  have hs1 : dropAll s (t.pages.take (i + 1)) = drop1 (dropAll s (t.pages.take i)) (p : Int) := by rw [dropAll_snoc q2, e1]
  have hrf : (drop1 (dropAll s (t.pages.take i)) (p : Int)).refs = (dropAll s (t.pages.take i)).refs.set p ((dropAll s (t.pages.take i)).refs.getD p default - 1) := by simp [drop1]
  rw [hs1, hrf] at e9
  have hi3 : (0 : Int) ≤ (i : Int) ∧ (i : Int) < (t.pages.length : Int) := by omega
  repeat (first | rw [ko] | rw [kr] | simp -dsimp -implicitDefEqProofs only [go_sem, rq1, hks, ei, q1, hoo, rr1])
  refine dq_intro [(0, []), (1, []), (2, []), (3, []), (4, []), (5, []), (6, []), (7, []), (8, []), (9, []), (10, []), (11, []), (12, [])] (by kernel_rfl) ?_
  repeat (first | rw [ko] | rw [kr] | simp -dsimp -implicitDefEqProofs only [go_sem, rq1, q2, hi3, Int.toNat_natCast, hoo, r3, rr1, e1])
  refine wz_intro (specDropPage_tree oR e8 (by omega) e5 e9) ?_
  rintro _ g2 ⟨l2, b2, ⟨y, rfl, oy⟩, bl2⟩
  have hy := OT.cell oy
  have m2 := l2.1
  have rc0 := (l2.2 (hn g .mk) (by omega)).trans rr0
  have rc1 := (l2.2 (hn g .mk + 1) (by omega)).trans rr1
  have rc2 := (l2.2 (hn g .mk + 1 + 1) (by omega)).trans rr2
  have rc3 := (l2.2 (hn g1 .mk) (by omega)).trans r3
  try (rw [kq]; refine ⟨zsm, ?_⟩)
  have hlr : ((dropAll s (t.pages.take i)).refs.set p ((dropAll s (t.pages.take i)).refs.getD p default - 1)).length = s.refs.length := by rw [List.length_set]; exact e3
  obtain ⟨q, rfl, rfl, hq⟩ := ints_row oy (by omega)
  have hqlt := bl2.2 q (by simp)
  have nq : (q == hn g1 .mk) = false := zne
  have nq' : (hn g1 .mk == q) = false := zne
  have hpl : p < ((dropAll s (t.pages.take i)).refs.set p ((dropAll s (t.pages.take i)).refs.getD p default - 1)).length := by omega
  have gq := get_W hpl
  rw [getD_set (by omega), if_pos rfl] at gq
  rw [hlr] at hy oy ⊢
  have hi4 : (0 : Int) ≤ (p : Int) ∧ (p : Int) < (s.refs.length : Int) := by omega
  repeat (first | rw [ko] | rw [kr] | simp -dsimp -implicitDefEqProofs only [go_sem, rq1, hoo, rc3, hy])
  refine dq_intro [(0, []), (1, []), (2, []), (3, []), (4, []), (5, []), (6, []), (7, []), (8, []), (9, [])] (by kernel_rfl) ?_
  repeat (first | rw [ko] | rw [kr] | simp -dsimp -implicitDefEqProofs only [go_sem, rq1, q2, hi3, hi4, Int.toNat_natCast, hoo, rc1, e1, n1, nq, hq, gq])
  have F2 : ∀ x, x < hn h' .mk → x ≠ hn g1 .mk → ∀ K, (g2.set (hn g1 .mk) K).get x = h'.get x := fun x h1 h2 K => by simp only [H2.set]; rw [if_neg h2]; exact l2.2 x h1
  have oy' : ∀ {G : H2}, G.get q = g2.get q → OT G [q] (.raw (.slice (some ⟨q, 0, none⟩) s.refs.length s.refs.length)) (.l 1 (ints (drop1 (dropAll s (t.pages.take i)) (p : Int)).refs)) := fun {G} h => by
   rw [hrf]; exact oy.frame fun x hx => by simp only [List.mem_singleton] at hx; subst hx; exact h
  refine gz_dec (fun z0 => ?_) (fun z0 => ?_)
  ·obtain ⟨qP, bP', csP, rfl, rfl, hqP, hcP, ocP⟩ := pages_row oP (by omega)
   have hqPlt := blP.2 qP (by simp)
   have nqP : (qP == hn g1 .mk) = false := by simp; intro e; exact nb (by rw [← e]; simp)
   have nqP' : (hn g1 .mk == qP) = false := by simp; intro e; exact nb (by rw [e]; simp)
   have rqP : hg (g2.set (hn g1 .mk) ⟨2, [.raw (.slice (some ⟨q, 0, none⟩) s.refs.length s.refs.length), .raw (.slice (some ⟨qP, 0, none⟩) (dropAll s (t.pages.take i)).pages.length (dropAll s (t.pages.take i)).pages.length)]⟩) qP .mk = _ := (F2 qP hqPlt.2 (by simpa using nqP) _).trans hqP
   rw [e4] at rqP hcP ⊢
   have nn1 : (hn g .mk == hn g2 .mk) = false := zne
   have nn2 : (hn g .mk + 1 == hn g2 .mk) = false := zne
   have nn3 : (hn g1 .mk == hn g2 .mk) = false := zne
   have nn4 : (qP == hn g2 .mk) = false := zne
   have nn5 : (hn g2 .mk == qP) = false := zne
   have nn6 : (q == hn g2 .mk) = false := zne
   have w3 : wrtL csP p [.raw (.slice (some ⟨hn g2 .mk, 0, none⟩) 0 0)] = some (csP.set p (.raw (.slice (some ⟨hn g2 .mk, 0, none⟩) 0 0))) := wrt_set (by omega)
   have hqP2 : hg g2 qP .mk = some ⟨1, csP⟩ := (l2.2 qP hqPlt.2).trans hqP
   repeat (first | rw [ko] | rw [kr] | simp -dsimp -implicitDefEqProofs only [go_sem, rq1, hoo])
   refine dq_intro [(0, []), (1, []), (2, []), (3, []), (4, []), (5, []), (6, []), (7, [1, 3, 6]), (8, []), (9, [])] (by kernel_rfl) ?_
   repeat (first | rw [ko] | rw [kr] | simp -dsimp -implicitDefEqProofs only [go_sem, rq1, rq2, rq3, q2, hi3, hi4, Int.toNat_natCast, hoo, rc1, e1, n1, nqP, hqP2, w3, w1, nn2, nn3, nn4])
   have hpg : (drop1 (dropAll s (t.pages.take i)) (p : Int)).pages = (dropAll s (t.pages.take i)).pages.set p [] := by simp only [drop1, Int.toNat_natCast]; rw [if_pos z0]
   have hnd := List.nodup_cons.1 blP.1
   have key : ∀ {G : H2}, (∀ x, x < hn h' .mk → x ≠ hn g1 .mk → x ≠ qP → G.get x = h'.get x) → hg G (hn g2 .mk) .mk = some ⟨2, []⟩ → hg G qP .mk = some ⟨1, csP.set p (.raw (.slice (some ⟨hn g2 .mk, 0, none⟩) 0 0))⟩ → ∃ bP2, OT G bP2 (.raw (.slice (some ⟨qP, 0, none⟩) s.refs.length s.refs.length)) (.l 1 (rCellSS (drop1 (dropAll s (t.pages.take i)) (p : Int)).pages)) ∧ bP2.Nodup ∧ ∀ x ∈ bP2, x ∈ qP :: bP' ∨ x = hn g2 .mk := by
    intro G h1 h2 h3
    have o1 := ocP.frame (g' := G) fun x hx => h1 x (blP.2 x (by simp [hx])).2 (fun e => nb (by rw [← e]; simp [hx])) (fun e => hnd.1 (e ▸ hx))
    have on : OT G [hn g2 .mk] (.raw (.slice (some ⟨hn g2 .mk, 0, none⟩) 0 0)) (.l 2 []) := OT.row (n := 0) (bs := []) h2 rfl rfl (by simp) .nil
    obtain ⟨bs', o', nd, sub⟩ := OTs.setT (k := p) o1 (by rw [pages_flat, List.length_map]; omega) on hnd.2 (by simp) (fun x hx => by simp only [List.mem_singleton]; have := blP.2 x (by simp [hx]); omega)
    refine ⟨qP :: bs', ?_, List.nodup_cons.2 ⟨fun hx => ?_, nd⟩, fun x hx => ?_⟩
    ·rw [hpg]
     refine OT.row (cs := csP.set p (.raw (.slice (some ⟨hn g2 .mk, 0, none⟩) 0 0))) h3 (by rw [List.length_set]; omega) (by rw [rCellSS_len, List.length_set]; omega) (fun e he => by obtain ⟨x, _, rfl⟩ := List.mem_map.1 he; rfl) ?_
     have e3 : (rCellSS ((dropAll s (t.pages.take i)).pages.set p [])).flatten = ((rCellSS (dropAll s (t.pages.take i)).pages).flatten).set p (T.l 2 []) := by
      rw [pages_flat, pages_flat, List.map_set]; rfl
     rw [e3]
     exact o'
    ·rcases sub qP hx with h | h
     ·exact hnd.1 h
     ·simp only [List.mem_singleton] at h; omega
    ·rcases List.mem_cons.1 hx with rfl | hx
     ·exact .inl (by simp)
     ·rcases sub x hx with h | h
      ·exact .inl (by simp [h])
      ·simp only [List.mem_singleton] at h; exact .inr h
   have hG : ∀ {K1 K2 K3 : OB} {x : Nat}, x < hn h' .mk → x ≠ hn g1 .mk → x ≠ qP → (((g2.set (hn g1 .mk) K1).push K2).set qP K3).get x = h'.get x := fun {K1 K2 K3 x} h1 h2 h3 => by
    have h4 : x ≠ hn (g2.set (hn g1 .mk) K1) .mk := by simp only [hn_set]; omega
    exact (get_set_ne h3).trans ((get_push_ne h4).trans ((get_set_ne h2).trans (l2.2 x h1)))
   obtain ⟨bP2, oP2, nd2, sub2⟩ := key (G := ((g2.set (hn g1 .mk) ⟨2, [.raw (.slice (some ⟨q, 0, none⟩) s.refs.length s.refs.length), .raw (.slice (some ⟨qP, 0, none⟩) s.refs.length s.refs.length)]⟩).push ⟨2, []⟩).set qP ⟨1, csP.set p (.raw (.slice (some ⟨hn g2 .mk, 0, none⟩) 0 0))⟩) (fun x h1 h2 h3 => hG h1 h2 h3) (by simp -dsimp -implicitDefEqProofs only [go_sem, nn5, hoo] <;> rfl) (by simp -dsimp -implicitDefEqProofs only [go_sem, hoo] <;> rfl)
   have hb2 : ∀ x ∈ bP2, (hn g .mk + 1 + 1 + 1 ≤ x ∧ x < hn h' .mk ∧ x ≠ hn g1 .mk) ∨ x = hn g2 .mk := fun x hx => (sub2 x hx).imp_left fun h => ⟨(blP.2 x h).1, (blP.2 x h).2, fun e => nb (by rw [← e]; exact List.mem_append.2 (.inr h))⟩
   refine nx_keep (m - 1) (by omega) zsm ⟨i + 1, (.raw (.slice (some ⟨q, 0, none⟩) s.refs.length s.refs.length)), (.raw (.slice (some ⟨qP, 0, none⟩) s.refs.length s.refs.length)), [q], bP2, zsm, by omega, ?_⟩
   rw [hs1]
   refine ⟨by simp -dsimp -implicitDefEqProofs only [go_sem, nqP', nn3, hoo] <;> rfl, oy' ((get_set_ne (by omega)).trans ((get_push_ne (by simp only [hn_set]; omega)).trans (get_set_ne (by omega)))), oP2, ?_, ?_, lo, by simp only [hn_set, hn_push]; omega, fun x hx => (hG (by omega) (by omega) (by omega)).trans (fr x hx)⟩
   ·simp only [hn_set, hn_push]
    refine ⟨List.nodup_append.2 ⟨by simp, nd2, fun x hx y hyy e => ?_⟩, fun x hx => ?_⟩
    ·simp only [List.mem_singleton] at hx; subst hx; have := hb2 y hyy; omega
    ·rcases List.mem_append.1 hx with hx | hx
     ·simp only [List.mem_singleton] at hx; subst hx; omega
     ·have := hb2 x hx; omega
   ·intro hx
    rcases List.mem_append.1 hx with hx | hx
    ·simp only [List.mem_singleton] at hx; omega
    ·have := hb2 _ hx; omega
  ·repeat (first | rw [ko] | rw [kr] | simp -dsimp -implicitDefEqProofs only [go_sem, rq1, hoo, w1])
   have hpg : (drop1 (dropAll s (t.pages.take i)) (p : Int)).pages = (dropAll s (t.pages.take i)).pages := by simp only [drop1, Int.toNat_natCast]; rw [if_neg z0]
   refine nx_keep (m - 1) (by omega) zsm ⟨i + 1, (.raw (.slice (some ⟨q, 0, none⟩) s.refs.length s.refs.length)), sP, [q], bP, zsm, by omega, ?_⟩
   rw [hs1]
   refine ⟨by simp -dsimp -implicitDefEqProofs only [go_sem, hoo] <;> rfl, oy' (by simp only [H2.set]; rw [if_neg (by omega)]), ?_, ?_, ?_, lo, by simp only [hn_set]; omega, fun x hx => (F2 x (by omega) (by omega) _).trans (fr x hx)⟩
   ·rw [hpg]
    exact oP.frame fun x hx => F2 x (blP.2 x hx).2 (fun e => nb (by rw [← e]; simp [hx])) _
   ·simp only [hn_set]
    refine ⟨List.nodup_append.2 ⟨by simp, blP.1, fun x hx y hyy e => ?_⟩, fun x hx => ?_⟩
    ·simp only [List.mem_singleton] at hx; subst hx; have := blP.2 y hyy; omega
    ·rcases List.mem_append.1 hx with hx | hx
     ·simp only [List.mem_singleton] at hx; subst hx; omega
     ·have := blP.2 x hx; omega
   ·intro hx
    rcases List.mem_append.1 hx with hx | hx
    ·simp only [List.mem_singleton] at hx; omega
    ·exact nb (by simp [hx])
 have hi' : i = t.pages.length := by omega
 rw [hi', List.take_length] at oR oP
 repeat (first | rw [ko] | rw [kr] | simp -dsimp -implicitDefEqProofs only [go_sem, rq1, rq2, hks, ei, q1, hoo, r3, rr1, rr2, hyR, hyP])
 have SETF : ∀ {x : Nat} {K : OB}, x ≠ hn g .mk + 1 + 1 → (h'.set (hn g .mk + 1 + 1) K).get x = h'.get x := fun {x} {K} hx => by simp only [H2.set]; rw [if_neg hx]
 have Lh : g.le h' := ⟨by have := L1.1; omega, fun c hc => (fr c (by omega)).trans (L1.2 c hc)⟩
 refine ⟨le_set Lh (by omega), bR ++ bP, ⟨_, rfl, outStore (c := dropAll s t.pages) (oR.frame fun x hx => SETF (by have := blR.2 x hx; omega)) (oP.frame fun x hx => SETF (by have := blP.2 x hx; omega))⟩, ?_⟩
 simp only [hn_set]
 exact bl.wide (by omega) (Nat.le_refl _)
end Go.Bi
end
section
set_option maxRecDepth 20000
namespace Go.Bi
open Go.Proofs
open Go.Ai (wrap_i64 wrap_u8)
variable {W0 : World} {P : Program}
set_option maxHeartbeats 8000000
theorem rd_R {A R C : List X} {k j n : Nat} (hl : A.length = k * 10) (hj : j + n ≤ R.length) : rdL (A ++ (R ++ C)) (k * 10 + j) n = some ((R.drop j).take n) := by
 unfold rdL
 rw [if_pos (by simp only [List.length_append]; omega), ← hl]
 congr 1
 rw [List.drop_append, List.drop_of_length_le (by omega), show A.length + j - A.length = j by omega, List.drop_append_of_le_length (by omega), List.nil_append, List.take_append_of_le_length (by rw [List.length_drop]; omega)]
theorem specDrop_ok {b N k : Nat} {e : LEngine} {s3 s4 s5 s6 s8 s9 s12 s13 s14 s15 s16 : X} {bM b14 b15 b16 : List Nat} {g : H2} (hb : hg g b .mk = some ⟨17, [.raw (.int .i64 e.model.dim), .raw (.int .i64 e.model.heads), .raw (.int .i64 e.model.context), s3, s4, s5, s6, .raw (.int .i64 e.model.head.width), s8, s9, .raw (.int .i64 e.model.head.mul), .raw (.int .i64 e.model.head.shift), s12, s13, s14, s15, s16]⟩)
  (o14 : OT g b14 s14 (.l 1 (ints e.store.refs))) (o15 : OT g b15 s15 (.l 1 (rCellSS e.store.pages))) (o16 : OT g b16 s16 (.l 10 (rRequestS e.requests))) (bl : Bl N (hn g .mk) (bM ++ (b14 ++ (b15 ++ b16)))) (hbN : b ∉ bM ++ (b14 ++ (b15 ++ b16))) (hbl : b < hn g .mk)
  (hk : k < e.requests.length) (ht : tableC e.store (e.requests.getD k default).table = true) (hcn : (e.requests.getD k default).table.count ≤ 9223372036854775807) (hd : DropOk e.store (e.requests.getD k default).table.pages) (hp : (e.requests.getD k default).table.pages.length ≤ 1048576) (hs : szStore e.store ≤ 1048576) :
  WC2 Tryz.prog W0 104 [.raw (.pointer (some ⟨b, 0, none⟩)), .raw (.int .i64 (k : Nat))] g (fun v g' => v = .tp [] ∧ hn g .mk ≤ hn g' .mk ∧ (∀ x, x < hn g .mk → x ≠ b → x ∉ b16 → g'.get x = g.get x) ∧ ∃ sR sP bR bP b16', hg g' b .mk = some ⟨17, [.raw (.int .i64 e.model.dim), .raw (.int .i64 e.model.heads), .raw (.int .i64 e.model.context), s3, s4, s5, s6, .raw (.int .i64 e.model.head.width), s8, s9, .raw (.int .i64 e.model.head.mul), .raw (.int .i64 e.model.head.shift), s12, s13, sR, sP, s16]⟩ ∧ OT g' bR sR (.l 1 (ints (evictE e k).store.refs)) ∧ OT g' bP sP (.l 1 (rCellSS (evictE e k).store.pages)) ∧ OT g' b16' s16 (.l 10 (rRequestS (evictE e k).requests)) ∧ Bl (hn g .mk) (hn g' .mk) (bR ++ bP) ∧ b16'.Sublist b16) := by
 have n16 : b16.Nodup := bl.split.2.1.split.2.1.split.2.1.1
 have bl16 := bl.split.2.1.split.2.1.split.2.1
 have hb16 : b ∉ b16 := fun h => hbN (by simp [h])
 have oS := outStore (c := e.store) o14 o15
 obtain ⟨q, A, R, C, bA, bR, bC, rfl, rfl, op⟩ := o16.open hk
 obtain ⟨hrow, hlen, oA, oR, oC⟩ := op
 generalize hr : e.requests.getD k default = r at *
 obtain ⟨b1, s1, b5, s5', b7, s7, rfl, rfl, o1, o5, o7⟩ := invRequest oR
 have hqb : (q == b) = false := by simp; intro e; exact hb16 (by simp [e])
 have hbq : (b == q) = false := by simp; intro e; exact hb16 (by simp [e])
 have c78 := rd_R (C := C) (R := [.raw (.int .i64 r.prompt), s1, .raw (.int .i64 r.config.top), .raw (.int .i64 r.config.seed), .raw (.int .i64 r.config.new), s5', .raw (.int .u64 r.state), s7, .raw (.int .i64 r.table.count), .raw (.int .i64 r.status)]) (j := 7) (n := 2) hlen (by simp)
 have a7 : (([.raw (.int .i64 r.prompt), s1, .raw (.int .i64 r.config.top), .raw (.int .i64 r.config.seed), .raw (.int .i64 r.config.new), s5', .raw (.int .u64 r.state), s7, .raw (.int .i64 r.table.count), .raw (.int .i64 r.status)] : List X).drop 7).take 2 = [s7, .raw (.int .i64 r.table.count)] := rfl
 rw [a7] at c78
 have c7 := o7.cell
 have c14 := o14.cell
 have c15 := o15.cell
 have wR : wrtL ([.raw (.int .i64 r.prompt), s1, .raw (.int .i64 r.config.top), .raw (.int .i64 r.config.seed), .raw (.int .i64 r.config.new), s5', .raw (.int .u64 r.state), s7, .raw (.int .i64 r.table.count), .raw (.int .i64 r.status)] : List X) 7 [.raw (.slice none 0 0), .raw (.int .i64 0)] = some [.raw (.int .i64 r.prompt), s1, .raw (.int .i64 r.config.top), .raw (.int .i64 r.config.seed), .raw (.int .i64 r.config.new), s5', .raw (.int .u64 r.state), .raw (.slice none 0 0), .raw (.int .i64 0), .raw (.int .i64 r.status)] := rfl
 have w7 := wrt_R (C := C) hlen wR
 have oT := outTable (c := r.table) o7
 generalize hcs : (A ++ ([.raw (.int .i64 r.prompt), s1, .raw (.int .i64 r.config.top), .raw (.int .i64 r.config.seed), .raw (.int .i64 r.config.new), s5', .raw (.int .u64 r.state), s7, .raw (.int .i64 r.table.count), .raw (.int .i64 r.status)] ++ C) : List X) = cs at hrow c78 w7
 generalize hcs' : (A ++ ([.raw (.int .i64 r.prompt), s1, .raw (.int .i64 r.config.top), .raw (.int .i64 r.config.seed), .raw (.int .i64 r.config.new), s5', .raw (.int .u64 r.state), .raw (.slice none 0 0), .raw (.int .i64 0), .raw (.int .i64 r.status)] ++ C) : List X) = cs' at w7
 have hi2 : (0 : Int) ≤ (k : Int) ∧ (k : Int) < (e.requests.length : Int) := by omega
 refine begins [[0, 1], [0, 1]] Tryz.func104 rfl (rs := []) rfl rfl ?_
 intro wf
 repeat (first | rw [ko] | rw [kr] | simp -dsimp -implicitDefEqProofs only [go_sem])
 refine dq_intro [(0, []), (1, []), (2, []), (3, []), (4, []), (5, []), (6, []), (7, []), (8, []), (9, []), (10, []), (11, []), (12, []), (13, []), (14, []), (15, []), (16, []), (17, []), (18, []), (19, [])] (by kernel_rfl) ?_
 repeat (first | rw [ko] | rw [kr] | simp -dsimp -implicitDefEqProofs only [go_sem, rq1, hb, hrow, c78, hi2, Int.toNat_natCast, hoo])
 obtain ⟨F, hF⟩ := oS.lent
 obtain ⟨F', hF'⟩ := oT.lent
 refine wz_intro (lend_tup (.cons hF (.cons hF' .nil)) (specDropTable_ok (F := F) (F' := F') hs ht hcn hd hp)) ?_
 rintro _ g2 ⟨l2, bs2, ⟨ys, rfl, o2⟩, bl2⟩
 obtain ⟨bR2, sR, bP2, sP, rfl, rfl, pR, pP⟩ := invStore o2
 have hyR := pR.cell
 have hyP := pP.cell
 have m2 := l2.1
 have hb2 : hg g2 b .mk = _ := (l2.2 b hbl).trans hb
 have hql := bl16.2 q (by simp)
 have hrow2 : hg g2 q .mk = _ := (l2.2 q hql.2).trans hrow
 try (rw [kq]; refine ⟨zsm, ?_⟩)
 repeat (first | rw [ko] | rw [kr] | simp -dsimp -implicitDefEqProofs only [go_sem, rq1, rq2, hb2, hrow2, hyR, hyP, hi2, Int.toNat_natCast, hqb, w7, hoo])
 have hev : evictE e k = ⟨e.model, dropAll e.store r.table.pages, e.requests.set k (giveR r)⟩ := by unfold evictE; rw [hr]
 have n16' := List.nodup_cons.1 n16
 have FR : ∀ {x : Nat} {K1 K2 : OB}, x ≠ b → x ≠ q → ((g2.set b K1).set q K2).get x = g2.get x := fun {x K1 K2} h1 h2 => (get_set_ne h2).trans (get_set_ne h1)
 have nb : ∀ {x : Nat}, hn g .mk ≤ x → x ≠ b ∧ x ≠ q := fun {x} hx => ⟨by omega, by have := hql.2; omega⟩
 have F : ∀ {x : Nat} {K1 K2 : OB}, x ∈ bA ++ ((b1 ++ (b5 ++ b7)) ++ bC) → ((g2.set b K1).set q K2).get x = g.get x := fun {x K1 K2} hx => (FR (fun e => hb16 (by rw [← e]; simp only [List.mem_cons]; exact .inr hx)) (fun e => n16'.1 (by rw [← e]; exact hx))).trans (l2.2 x (bl16.2 x (by simp only [List.mem_cons]; exact .inr hx)).2)
 refine ⟨rfl, by simp only [hn_set]; exact m2, fun x h0 h1 h2 => (FR h1 (fun e => h2 (by simp [e]))).trans (l2.2 x h0), sR, sP, bR2, bP2, q :: (bA ++ ((b1 ++ (b5 ++ [])) ++ bC)), by simp -dsimp -implicitDefEqProofs only [go_sem, hbq, hoo] <;> rfl, by rw [hev]; exact pR.frame fun x hx => FR (nb (bl2.2 x (by simp [hx])).1).1 (nb (bl2.2 x (by simp [hx])).1).2, by rw [hev]; exact pP.frame fun x hx => FR (nb (bl2.2 x (by simp [hx])).1).1 (nb (bl2.2 x (by simp [hx])).1).2, ?_, by simp only [hn_set]; exact bl2, ?_⟩
 ·rw [hev]
  refine Open.shut (r' := giveR r) (show hg _ q .mk = some ⟨10, _⟩ from (by simp -dsimp -implicitDefEqProofs only [go_sem, hoo] <;> rfl : hg _ q .mk = some ⟨10, cs'⟩).trans (by rw [← hcs']; rfl)) hk (oA.frame fun x hx => F (by simp [hx])) (outRequest (c := giveR r) (o1.frame fun x hx => F (by simp [hx])) (o5.frame fun x hx => F (by simp [hx])) OT.nil) (oC.frame fun x hx => F (by simp [hx]))
 ·exact List.Sublist.cons_cons q (List.Sublist.append_left (List.Sublist.append_right (List.Sublist.append_left (List.Sublist.append_left (List.nil_sublist _) _) _) _) _)
end Go.Bi
end
section
set_option maxRecDepth 20000
namespace Go.Bi
open Go.Proofs
open Go.Ai (wrap_i64 wrap_u8)
variable {W0 : World} {P : Program}
set_option maxHeartbeats 8000000
theorem implLive_ok {F : Nat → Adr} {e : LEngine} {k : Int} {g : H2} (hs : szEngine e ≤ 1048576) : PW Tryz.prog W0 106 [.st (xEngine F e), .raw (.int .i64 k)] g (fun y => y = .raw (.bool (liveB e k))) := by
 have hsz : szEngine e = szModel e.model + szStore e.store + (e.requests.length + sumN szRequest e.requests) := rfl
 have w1 : IntKind.i64.wrap ((e.requests.length : Int) - 1) = (e.requests.length : Int) - 1 := by rw [wrap_i64] <;> omega
 refine PW.scalar ?_
 refine begins [[0, 1], [1, 2]] Tryz.func106 rfl (rs := [.tmp 4]) rfl rfl ?_
 intro wf
 unfold liveB
 repeat (first | rw [ko] | rw [kr] | simp -dsimp -implicitDefEqProofs only [go_sem, hoo])
 refine pw_intro (implEngine_ok (F := F) (smallEng_of hs)) ?_
 rintro _ n1 hn1 rfl
 try simp only [hn_push] at hn1
 cases hE : engB e
 ·repeat (first | rw [ko] | rw [kr] | simp -dsimp -implicitDefEqProofs only [go_sem, rq1, hoo])
  exact ⟨le_up (le_push (H2.le.refl _)) (by simp only [hn_push]; omega), ⟨_, rfl⟩, rfl⟩
 repeat (first | rw [ko] | rw [kr] | simp -dsimp -implicitDefEqProofs only [go_sem, rq1, hoo, w1])
 refine wz_intro in_ok ?_
 rintro _ h2 ⟨rfl, rfl⟩
 cases hI : inI k 0 ((e.requests.length : Int) - 1)
 ·repeat (first | rw [ko] | rw [kr] | simp -dsimp -implicitDefEqProofs only [go_sem, rq1, hoo])
  exact ⟨le_up (le_push (H2.le.refl _)) (by simp only [hn_push]; omega), ⟨_, rfl⟩, rfl⟩
 have hin := inI_tt hI
 obtain ⟨j, rfl⟩ := Int.eq_ofNat_of_zero_le hin.1
 have q2 : j < e.requests.length := by omega
 have hi2 : (0 : Int) ≤ (j : Int) ∧ (j : Int) < (e.requests.length : Int) := by omega
 repeat (first | rw [ko] | rw [kr] | simp -dsimp -implicitDefEqProofs only [go_sem, rq1, rq2, rq3, hoo, hi2, q2, Int.toNat_natCast])
 exact ⟨le_up (le_push (H2.le.refl _)) (by simp only [hn_push]; omega), ⟨_, rfl⟩, by first | rfl | simp only [Bool.true_and]⟩
theorem specLive_ok {F : Nat → Adr} {e : LEngine} {k : Int} {g : H2} (hs : szEngine e ≤ 1048576) (hrg : rngEngine e) : PW Tryz.prog W0 103 [.st (xEngine F e), .raw (.int .i64 k)] g (fun y => y = .raw (.bool (liveB e k))) := by
 have hsz : szEngine e = szModel e.model + szStore e.store + (e.requests.length + sumN szRequest e.requests) := rfl
 have w1 : IntKind.i64.wrap ((e.requests.length : Int) - 1) = (e.requests.length : Int) - 1 := by rw [wrap_i64] <;> omega
 refine PW.scalar ?_
 refine begins [[0, 1], [1, 2]] Tryz.func103 rfl (rs := [.tmp 4]) rfl rfl ?_
 intro wf
 unfold liveB
 repeat (first | rw [ko] | rw [kr] | simp -dsimp -implicitDefEqProofs only [go_sem, hoo])
 refine pw_intro (specEngine_ok (F := F) (smallEng_of hs) hrg) ?_
 rintro _ n1 hn1 rfl
 try simp only [hn_push] at hn1
 cases hE : engB e
 ·repeat (first | rw [ko] | rw [kr] | simp -dsimp -implicitDefEqProofs only [go_sem, rq1, hoo])
  exact ⟨le_up (le_push (H2.le.refl _)) (by simp only [hn_push]; omega), ⟨_, rfl⟩, rfl⟩
 repeat (first | rw [ko] | rw [kr] | simp -dsimp -implicitDefEqProofs only [go_sem, rq1, hoo, w1])
 refine wz_intro l01In_ok ?_
 rintro _ h2 ⟨rfl, rfl⟩
 cases hI : inI k 0 ((e.requests.length : Int) - 1)
 ·repeat (first | rw [ko] | rw [kr] | simp -dsimp -implicitDefEqProofs only [go_sem, rq1, hoo])
  exact ⟨le_up (le_push (H2.le.refl _)) (by simp only [hn_push]; omega), ⟨_, rfl⟩, rfl⟩
 have hin := inI_tt hI
 obtain ⟨j, rfl⟩ := Int.eq_ofNat_of_zero_le hin.1
 have q2 : j < e.requests.length := by omega
 have hi2 : (0 : Int) ≤ (j : Int) ∧ (j : Int) < (e.requests.length : Int) := by omega
 repeat (first | rw [ko] | rw [kr] | simp -dsimp -implicitDefEqProofs only [go_sem, rq1, rq2, rq3, hoo, hi2, q2, Int.toNat_natCast])
 exact ⟨le_up (le_push (H2.le.refl _)) (by simp only [hn_push]; omega), ⟨_, rfl⟩, by first | rfl | simp only [Bool.true_and]⟩
theorem implEvict_ok {F : Nat → Adr} {e : LEngine} {k : Int} {g : H2} (hs : szEngine e ≤ 1048576) : WC2 Tryz.prog W0 33 [.st (xEngine F e), .raw (.int .i64 k)] g fun x g' => g.le g' ∧ ∃ bs, RTup (eEngine (evE e k)) (.int .i64 (evK e k)) x g' bs ∧ Bl (hn g .mk) (hn g' .mk) bs := by
 have hsz : szEngine e = szModel e.model + szStore e.store + (e.requests.length + sumN szRequest e.requests) := rfl
 refine begins [[0, 1], [1, 2, 4], [1, 2, 4, 6], [4, 6], [1, 4, 6], [4, 6]] Tryz.func33 rfl (rs := [.cell 4 41, .tmp 5]) rfl rfl ?_
 intro wf
 have n01 : (hn g .mk == hn g .mk + 1) = false := by simp
 have n10 : (hn g .mk + 1 == hn g .mk) = false := by simp
 repeat (first | rw [ko] | rw [kr] | simp -dsimp -implicitDefEqProofs only [go_sem, hoo, n01])
 refine wz_intro (cloneEngine_new (F := F) hs) ?_
 rintro _ g1 ⟨l1, ys, bs, rfl, o1, bl1⟩
 try simp only [hn_push] at bl1
 have m1 := l1.1
 try simp only [hn_push] at m1
 have ra0 := l1.2 (hn g .mk) zau
 have ra1 := l1.2 (hn g .mk + 1) zau
 simp -dsimp -implicitDefEqProofs only [go_sem, hoo, n01] at ra0 ra1
 obtain ⟨s3, s4, s5, s6, s8, s9, s12, s13, s14, s15, s16, bM, b14, b15, b16, rfl, rfl, oM, o14, o15, o16⟩ := invEngine3 o1
 obtain ⟨c3, c4, c5, c6, c8, c9, c12, c13⟩ := oM.cellM
 have c14 := o14.cell
 have c15 := o15.cell
 have c16 := o16.cell
 have n0 : (hn g .mk == hn g1 .mk) = false := zne
 have n0' : (hn g1 .mk == hn g .mk) = false := zne
 have n1 : (hn g .mk + 1 == hn g1 .mk) = false := zne
 have n1' : (hn g1 .mk == hn g .mk + 1) = false := zne
 have L1 : g.le g1 := H2.le.trans zale l1
 repeat (first | rw [ko] | rw [kr] | simp -dsimp -implicitDefEqProofs only [go_sem, rq1, rq2, ra0, c14, c15, c16, c3, c4, c5, c6, c8, c9, c12, c13, n0, hoo])
 refine pw_intro (implLive_ok (F := F) (k := k) hs) ?_
 rintro _ m2 hm2 rfl
 try simp only [hn_push] at hm2
 cases hB : liveB e k
 ·have hE : evE e k = e := by unfold evE; rw [hB]; rfl
  have hK : evK e k = 6 := by unfold evK; rw [hB]; rfl
  rw [hE, hK]
  repeat (first | rw [ko] | rw [kr] | simp -dsimp -implicitDefEqProofs only [go_sem, rq1, rq2, ra1, c14, c15, c16, c3, c4, c5, c6, c8, c9, c12, c13, n1, hoo])
  refine ⟨zale, bM ++ (b14 ++ (b15 ++ b16)), ⟨_, rfl, outEngine3 (c := e) (oM.frame fun q hq => by
   have h1 := bl1.split.1.2 q hq
   simp only [H2.set, H2.push, H2.up]
   repeat (first | rfl | rw [if_neg (by first | omega | (unfold hn at *; omega))])) (o14.frame fun q hq => by
   have h1 := bl1.split.2.1.split.1.2 q hq
   simp only [H2.set, H2.push, H2.up]
   repeat (first | rfl | rw [if_neg (by first | omega | (unfold hn at *; omega))])) (o15.frame fun q hq => by
   have h1 := bl1.split.2.1.split.2.1.split.1.2 q hq
   simp only [H2.set, H2.push, H2.up]
   repeat (first | rfl | rw [if_neg (by first | omega | (unfold hn at *; omega))])) (o16.frame fun q hq => by
   have h1 := bl1.split.2.1.split.2.1.split.2.1.2 q hq
   simp only [H2.set, H2.push, H2.up]
   repeat (first | rfl | rw [if_neg (by first | omega | (unfold hn at *; omega))]))⟩, ?_⟩
  simp only [hn_set, hn_up]
  exact bl1.wide (by omega) (by omega)
 have hE : evE e k = evictE e k.toNat := by unfold evE; rw [hB]; rfl
 have hK : evK e k = 0 := by unfold evK; rw [hB]; rfl
 rw [hE, hK]
 obtain ⟨k0, kl, _, _, _, hdo⟩ := engB_drop hB
 obtain ⟨j, rfl⟩ := Int.eq_ofNat_of_zero_le k0
 rw [Int.toNat_natCast] at kl hdo ⊢
 have hpl : (e.requests.getD j default).table.pages.length ≤ 1048576 := by
  have h1 : szRequest (e.requests.getD j default) ≤ sumN szRequest e.requests := sumN_mem (f := szRequest) (getD_mem kl)
  have h2 : szRequest (e.requests.getD j default) = (e.requests.getD j default).tokens.length + szConfig (e.requests.getD j default).config + (e.requests.getD j default).table.pages.length := rfl
  omega
 have blM := bl1.split.1
 have bl14 := bl1.split.2.1.split.1
 have bl15 := bl1.split.2.1.split.2.1.split.1
 have bl16 := bl1.split.2.1.split.2.1.split.2.1
 repeat (first | rw [ko] | rw [kr] | simp -dsimp -implicitDefEqProofs only [go_sem, rq1, hoo])
 refine wz_intro (empty_ok (b := hn g1 .mk) (s3 := s3) (s4 := s4) (s5 := s5) (s6 := s6) (s8 := s8) (s9 := s9) (s12 := s12) (s13 := s13) (s14 := s14) (s15 := s15) (s16 := s16) (k := j) (e := e) (N := hn g .mk + 1 + 1) (bM := bM) (by simp -dsimp -implicitDefEqProofs only [go_sem, hoo]) (o14.frame fun q hq => by
  have h1 := bl14.2 q hq
  simp only [H2.up, H2.push]
  rw [if_neg (by unfold hn at *; omega)]) (o15.frame fun q hq => by
  have h1 := bl15.2 q hq
  simp only [H2.up, H2.push]
  rw [if_neg (by unfold hn at *; omega)]) (o16.frame fun q hq => by
  have h1 := bl16.2 q hq
  simp only [H2.up, H2.push]
  rw [if_neg (by unfold hn at *; omega)]) (bl1.wide (Nat.le_refl _) (by simp only [hn_up]; omega)) (fun hx => by have := bl1.2 _ hx; omega) kl hdo hpl) ?_
 rintro _ g3 ⟨rfl, nn3, fr3, p14, b15', b16', p15, p16, sb15, sb16⟩
 try simp only [hn_up] at nn3
 have hnot : ∀ {x : Nat}, x < hn g .mk + 1 + 1 ∨ hn g1 .mk ≤ x → x ∉ b14 ∧ x ∉ b15 ∧ x ∉ b16 := fun {x} hx => ⟨fun h => by have := bl14.2 x h; omega, fun h => by have := bl15.2 x h; omega, fun h => by have := bl16.2 x h; omega⟩
 have t0 := hnot (x := hn g .mk) (.inl (by omega))
 have t1 := hnot (x := hn g .mk + 1) (.inl (by omega))
 have t2 := hnot (x := hn g1 .mk) (.inr (by omega))
 have rb0 : hg g3 (hn g .mk) .mk = _ := fr3 _ t0.1 t0.2.1 t0.2.2
 have rb1 : hg g3 (hn g .mk + 1) .mk = _ := fr3 _ t1.1 t1.2.1 t1.2.2
 have rb2 : hg g3 (hn g1 .mk) .mk = _ := fr3 _ t2.1 t2.2.1 t2.2.2
 replace rb0 := rb0.trans (show _ = some ⟨17, xEngine F e⟩ from (by simp -dsimp -implicitDefEqProofs only [go_sem, ra0, n0] <;> rfl : hg _ (hn g .mk) .mk = _))
 replace rb1 := rb1.trans (show _ = some ⟨17, [.raw (.int .i64 0), .raw (.int .i64 0), .raw (.int .i64 0), .raw (.slice none 0 0), .raw (.slice none 0 0), .raw (.slice none 0 0), .raw (.slice none 0 0), .raw (.int .i64 0), .raw (.slice none 0 0), .raw (.slice none 0 0), .raw (.int .i64 0), .raw (.int .i64 0), .raw (.slice none 0 0), .raw (.slice none 0 0), .raw (.slice none 0 0), .raw (.slice none 0 0), .raw (.slice none 0 0)]⟩ from (by simp -dsimp -implicitDefEqProofs only [go_sem, ra1, n1] <;> rfl : hg _ (hn g .mk + 1) .mk = _))
 replace rb2 := rb2.trans (show _ = some ⟨17, [.raw (.int .i64 e.model.dim), .raw (.int .i64 e.model.heads), .raw (.int .i64 e.model.context), s3, s4, s5, s6, .raw (.int .i64 e.model.head.width), s8, s9, .raw (.int .i64 e.model.head.mul), .raw (.int .i64 e.model.head.shift), s12, s13, s14, s15, s16]⟩ from (by simp -dsimp -implicitDefEqProofs only [go_sem, hoo] <;> rfl : hg _ (hn g1 .mk) .mk = _))
 repeat (first | rw [ko] | rw [kr] | simp -dsimp -implicitDefEqProofs only [go_sem, rq1, rq2, rb1, rb2, c14, c15, c16, c3, c4, c5, c6, c8, c9, c12, c13, hoo])
 have dM : ∀ x ∈ bM, x ∉ b14 ∧ x ∉ b15 ∧ x ∉ b16 := fun x h1 => ⟨fun h2 => bl1.split.2.2 x h1 (by simp [h2]), fun h2 => bl1.split.2.2 x h1 (by simp [h2]), fun h2 => bl1.split.2.2 x h1 (by simp [h2])⟩
 have F3 : ∀ x, x < hn g1 .mk → x ∉ b14 → x ∉ b15 → x ∉ b16 → g3.get x = g1.get x := fun x h0 h1 h2 h3 => (fr3 x h1 h2 h3).trans (by simp only [H2.up, H2.push]; rw [if_neg (by unfold hn at *; omega)])
 have L3 : g.le g3 := ⟨by have := L1.1; omega, fun c hc => (F3 c (by have := L1.1; omega) (hnot (.inl (by omega))).1 (hnot (.inl (by omega))).2.1 (hnot (.inl (by omega))).2.2).trans (L1.2 c hc)⟩
 have SETF : ∀ {x : Nat} {K : OB}, x ≠ hn g .mk + 1 → (g3.set (hn g .mk + 1) K).get x = g3.get x := fun {x} {K} hx => by simp only [H2.set]; rw [if_neg hx]
 refine ⟨le_set L3 (by omega), bM ++ (b14 ++ (b15' ++ b16')), ⟨_, rfl, outEngine3 (c := evictE e j) (oM.frame fun x hx => (SETF (by have := blM.2 x hx; omega)).trans (F3 x (by have := blM.2 x hx; omega) (dM x hx).1 (dM x hx).2.1 (dM x hx).2.2)) (p14.frame fun x hx => SETF (by have := bl14.2 x hx; omega)) (p15.frame fun x hx => SETF (by have := bl15.2 x (sb15.subset hx); omega)) (p16.frame fun x hx => SETF (by have := bl16.2 x (sb16.subset hx); omega))⟩, ?_⟩
 simp only [hn_set]
 have sb : (bM ++ (b14 ++ (b15' ++ b16'))).Sublist (bM ++ (b14 ++ (b15 ++ b16))) := List.Sublist.append_left (List.Sublist.append_left (List.Sublist.append sb15 sb16) _) _
 refine Bl.wide ⟨sb.nodup bl1.1, fun x hx => bl1.2 x (sb.subset hx)⟩ (by omega) (by omega)
end Go.Bi
end
section
set_option maxRecDepth 20000
namespace Go.Bi
open Go.Proofs
open Go.Ai (wrap_i64 wrap_u8)
variable {W0 : World} {P : Program}
set_option maxHeartbeats 8000000
theorem bl_mix {N N1 N2 M : Nat} {a b c d : List Nat} (ba : Bl N N1 a) (bd : Bl N N1 d) (hd : ∀ x ∈ a, x ∉ d) (bc : Bl N2 M (b ++ c)) (h0 : N ≤ N2) (h1 : N1 ≤ N2) (h2 : N2 ≤ M) : Bl N M (a ++ (b ++ (c ++ d))) := by
 obtain ⟨n1, n2, n3⟩ := List.nodup_append.1 bc.1
 refine ⟨List.nodup_append.2 ⟨ba.1, List.nodup_append.2 ⟨n1, List.nodup_append.2 ⟨n2, bd.1, fun x hx y hy e => by have := bc.2 x (by simp [hx]); have := bd.2 y hy; omega⟩, fun x hx y hy e => ?_⟩, fun x hx y hy e => ?_⟩, fun x hx => ?_⟩
 ·rcases List.mem_append.1 hy with h | h
  ·exact n3 x hx y h e
  ·have := bc.2 x (by simp [hx]); have := bd.2 y h; omega
 ·rcases List.mem_append.1 hy with h | h
  ·have := bc.2 y (by simp [h]); have := ba.2 x hx; omega
  ·rcases List.mem_append.1 h with h | h
   ·have := bc.2 y (by simp [h]); have := ba.2 x hx; omega
   ·exact hd x hx (e ▸ h)
 ·rcases List.mem_append.1 hx with h | h
  ·have := ba.2 x h; omega
  ·rcases List.mem_append.1 h with h | h
   ·have := bc.2 x (by simp [h]); omega
   ·rcases List.mem_append.1 h with h | h
    ·have := bc.2 x (by simp [h]); omega
    ·have := bd.2 x h; omega
theorem specEvict_ok {F : Nat → Adr} {e : LEngine} {k : Int} {g : H2} (hs : szEngine e ≤ 1048576) (hrg : rngEngine e) : WC2 Tryz.prog W0 32 [.st (xEngine F e), .raw (.int .i64 k)] g fun x g' => g.le g' ∧ ∃ bs, RTup (eEngine (evE e k)) (.int .i64 (evK e k)) x g' bs ∧ Bl (hn g .mk) (hn g' .mk) bs := by
 have hsz : szEngine e = szModel e.model + szStore e.store + (e.requests.length + sumN szRequest e.requests) := rfl
 refine begins [[0, 1], [1, 2, 4], [1, 2, 4, 6], [4, 6], [1, 4, 6], [4, 6]] Tryz.func32 rfl (rs := [.cell 4 41, .tmp 5]) rfl rfl ?_
 intro wf
 have n01 : (hn g .mk == hn g .mk + 1) = false := by simp
 have n10 : (hn g .mk + 1 == hn g .mk) = false := by simp
 repeat (first | rw [ko] | rw [kr] | simp -dsimp -implicitDefEqProofs only [go_sem, hoo, n01])
 refine wz_intro (copyEngine_new (F := F) hs) ?_
 rintro _ g1 ⟨l1, ys, bs, rfl, o1, bl1⟩
 try simp only [hn_push] at bl1
 have m1 := l1.1
 try simp only [hn_push] at m1
 have ra0 := l1.2 (hn g .mk) zau
 have ra1 := l1.2 (hn g .mk + 1) zau
 simp -dsimp -implicitDefEqProofs only [go_sem, hoo, n01] at ra0 ra1
 obtain ⟨s3, s4, s5, s6, s8, s9, s12, s13, s14, s15, s16, bM, b14, b15, b16, rfl, rfl, oM, o14, o15, o16⟩ := invEngine3 o1
 obtain ⟨c3, c4, c5, c6, c8, c9, c12, c13⟩ := oM.cellM
 have c14 := o14.cell
 have c15 := o15.cell
 have c16 := o16.cell
 have n0 : (hn g .mk == hn g1 .mk) = false := zne
 have n0' : (hn g1 .mk == hn g .mk) = false := zne
 have n1 : (hn g .mk + 1 == hn g1 .mk) = false := zne
 have n1' : (hn g1 .mk == hn g .mk + 1) = false := zne
 have L1 : g.le g1 := H2.le.trans zale l1
 repeat (first | rw [ko] | rw [kr] | simp -dsimp -implicitDefEqProofs only [go_sem, rq1, rq2, ra0, c14, c15, c16, c3, c4, c5, c6, c8, c9, c12, c13, n0, hoo])
 refine pw_intro (specLive_ok (F := F) (k := k) hs hrg) ?_
 rintro _ m2 hm2 rfl
 try simp only [hn_push] at hm2
 cases hB : liveB e k
 ·have hE : evE e k = e := by unfold evE; rw [hB]; rfl
  have hK : evK e k = 6 := by unfold evK; rw [hB]; rfl
  rw [hE, hK]
  repeat (first | rw [ko] | rw [kr] | simp -dsimp -implicitDefEqProofs only [go_sem, rq1, rq2, ra1, c14, c15, c16, c3, c4, c5, c6, c8, c9, c12, c13, n1, hoo])
  refine ⟨zale, bM ++ (b14 ++ (b15 ++ b16)), ⟨_, rfl, outEngine3 (c := e) (oM.frame fun q hq => by
   have h1 := bl1.split.1.2 q hq
   simp only [H2.set, H2.push, H2.up]
   repeat (first | rfl | rw [if_neg (by first | omega | (unfold hn at *; omega))])) (o14.frame fun q hq => by
   have h1 := bl1.split.2.1.split.1.2 q hq
   simp only [H2.set, H2.push, H2.up]
   repeat (first | rfl | rw [if_neg (by first | omega | (unfold hn at *; omega))])) (o15.frame fun q hq => by
   have h1 := bl1.split.2.1.split.2.1.split.1.2 q hq
   simp only [H2.set, H2.push, H2.up]
   repeat (first | rfl | rw [if_neg (by first | omega | (unfold hn at *; omega))])) (o16.frame fun q hq => by
   have h1 := bl1.split.2.1.split.2.1.split.2.1.2 q hq
   simp only [H2.set, H2.push, H2.up]
   repeat (first | rfl | rw [if_neg (by first | omega | (unfold hn at *; omega))]))⟩, ?_⟩
  simp only [hn_set, hn_up]
  exact bl1.wide (by omega) (by omega)
 have hE : evE e k = evictE e k.toNat := by unfold evE; rw [hB]; rfl
 have hK : evK e k = 0 := by unfold evK; rw [hB]; rfl
 rw [hE, hK]
 obtain ⟨k0, kl, _, hst, htb, hdo⟩ := engB_drop hB
 obtain ⟨j, rfl⟩ := Int.eq_ofNat_of_zero_le k0
 rw [Int.toNat_natCast] at kl hdo htb ⊢
 have hpl : (e.requests.getD j default).table.pages.length ≤ 1048576 := by
  have h1 : szRequest (e.requests.getD j default) ≤ sumN szRequest e.requests := sumN_mem (f := szRequest) (getD_mem kl)
  have h2 : szRequest (e.requests.getD j default) = (e.requests.getD j default).tokens.length + szConfig (e.requests.getD j default).config + (e.requests.getD j default).table.pages.length := rfl
  omega
 have blM := bl1.split.1
 have bl14 := bl1.split.2.1.split.1
 have bl15 := bl1.split.2.1.split.2.1.split.1
 have bl16 := bl1.split.2.1.split.2.1.split.2.1
 repeat (first | rw [ko] | rw [kr] | simp -dsimp -implicitDefEqProofs only [go_sem, rq1, hoo])
 have hcn := (hrg _ (getD_memR kl)).1
 unfold rngTable i64R at hcn
 have htc : tableC e.store (e.requests.getD j default).table = true := by rw [tableC_eq hst]; exact htb
 refine wz_intro (specDrop_ok (b := hn g1 .mk) (s3 := s3) (s4 := s4) (s5 := s5) (s6 := s6) (s8 := s8) (s9 := s9) (s12 := s12) (s13 := s13) (s14 := s14) (s15 := s15) (s16 := s16) (k := j) (e := e) (N := hn g .mk + 1 + 1) (bM := bM) (by simp -dsimp -implicitDefEqProofs only [go_sem, hoo]) (o14.frame fun q hq => by
  have h1 := bl14.2 q hq
  simp only [H2.up, H2.push]
  rw [if_neg (by unfold hn at *; omega)]) (o15.frame fun q hq => by
  have h1 := bl15.2 q hq
  simp only [H2.up, H2.push]
  rw [if_neg (by unfold hn at *; omega)]) (o16.frame fun q hq => by
  have h1 := bl16.2 q hq
  simp only [H2.up, H2.push]
  rw [if_neg (by unfold hn at *; omega)]) (bl1.wide (Nat.le_refl _) (by simp only [hn_up]; omega)) (fun hx => by have := bl1.2 _ hx; omega) (by simp only [hn_up]; omega) kl htc (by omega) hdo hpl (by omega)) ?_
 rintro _ g3 ⟨rfl, nn3, fr3, sR, sP, bR, bP, b16', rb2, pR, pP, p16, blP, sb16⟩
 try simp only [hn_up] at nn3 blP
 have cR := pR.cell
 have cP := pP.cell
 have hnot : ∀ {x : Nat}, x < hn g .mk + 1 + 1 → x ∉ b16 := fun {x} hx h => by have := bl16.2 x h; omega
 have rb0 : hg g3 (hn g .mk) .mk = _ := fr3 _ (by simp only [hn_up]; omega) (by omega) (hnot (by omega))
 have rb1 : hg g3 (hn g .mk + 1) .mk = _ := fr3 _ (by simp only [hn_up]; omega) (by omega) (hnot (by omega))
 replace rb0 := rb0.trans (show _ = some ⟨17, xEngine F e⟩ from (by simp -dsimp -implicitDefEqProofs only [go_sem, ra0, n0] <;> rfl : hg _ (hn g .mk) .mk = _))
 replace rb1 := rb1.trans (show _ = some ⟨17, [.raw (.int .i64 0), .raw (.int .i64 0), .raw (.int .i64 0), .raw (.slice none 0 0), .raw (.slice none 0 0), .raw (.slice none 0 0), .raw (.slice none 0 0), .raw (.int .i64 0), .raw (.slice none 0 0), .raw (.slice none 0 0), .raw (.int .i64 0), .raw (.int .i64 0), .raw (.slice none 0 0), .raw (.slice none 0 0), .raw (.slice none 0 0), .raw (.slice none 0 0), .raw (.slice none 0 0)]⟩ from (by simp -dsimp -implicitDefEqProofs only [go_sem, ra1, n1] <;> rfl : hg _ (hn g .mk + 1) .mk = _))
 have F3 : ∀ x, x < hn g1 .mk → x ∉ b16 → g3.get x = g1.get x := fun x h0 h1 => (fr3 x (by simp only [hn_up]; omega) (by omega) h1).trans (by simp only [H2.up, H2.push]; rw [if_neg (by unfold hn at *; omega)])
 have L3 : g.le g3 := ⟨by have := L1.1; omega, fun c hc => (F3 c (by have := L1.1; omega) (hnot (by omega))).trans (L1.2 c hc)⟩
 have dM : ∀ x ∈ bM, x ∉ b16 := fun x h1 h2 => bl1.split.2.2 x h1 (by simp [h2])
 repeat (first | rw [ko] | rw [kr] | simp -dsimp -implicitDefEqProofs only [go_sem, rq1, rq2, rb1, rb2, cR, cP, c16, c3, c4, c5, c6, c8, c9, c12, c13, hoo])
 have SETF : ∀ {x : Nat} {K : OB}, x ≠ hn g .mk + 1 → (g3.set (hn g .mk + 1) K).get x = g3.get x := fun {x} {K} hx => get_set_ne hx
 refine ⟨le_set L3 (by omega), bM ++ (bR ++ (bP ++ b16')), ⟨_, rfl, outEngine3 (c := evictE e j) (oM.frame fun x hx => (SETF (by have := blM.2 x hx; omega)).trans (F3 x (by have := blM.2 x hx; omega) (dM x hx))) (pR.frame fun x hx => SETF (by have := blP.2 x (by simp [hx]); omega)) (pP.frame fun x hx => SETF (by have := blP.2 x (by simp [hx]); omega)) (p16.frame fun x hx => SETF (by have := bl16.2 x (sb16.subset hx); omega))⟩, ?_⟩
 simp only [hn_set]
 exact bl_mix (blM.wide (by omega) (Nat.le_refl _)) (Bl.wide ⟨sb16.nodup bl16.1, fun x hx => bl16.2 x (sb16.subset hx)⟩ (by omega) (Nat.le_refl _)) (fun x h1 h2 => dM x h1 (sb16.subset h2)) blP (by omega) (by omega) (by omega)
end Go.Bi
end
section
set_option maxRecDepth 20000

end
section
set_option maxRecDepth 20000
namespace Go.Bi
open Go.Proofs
open Go.Ai (wrap_i64 wrap_u8 Heap)
variable {W0 : World} {P : Program}
theorem heldEngine_tree {g : H2} {c : LEngine} {bs : List Nat} {ys : List X} {k k' : Int} (o : OTs g bs ys (eEngine c)) (hd : ∀ F g, PW Tryz.prog W0 29 [.st (xEngine F c), .raw (.int .i64 k)] g (fun y => y = .raw (.int .i64 k'))) : PW Tryz.prog W0 29 [.st ys, .raw (.int .i64 k)] g (fun y => y = .raw (.int .i64 k')) := by
 obtain ⟨F, hF⟩ := o.lent
 exact PW.lend (.cons hF (.cons lent_raw .nil)) (hd F _) (fun y h => by subst h; exact .raw)
end Go.Bi
end
section
set_option maxRecDepth 20000
namespace Go.Bi
open Go.Proofs
open Go.Ai (wrap_i64 wrap_u8 Heap)
variable {W0 : World} {P : Program}
theorem sumN_set {α : Type} {f : α → Nat} {x : α} : ∀ {l : List α} {i : Nat}, (∀ y, l[i]? = some y → f x ≤ f y) → sumN f (l.set i x) ≤ sumN f l
 | [], _, _ => Nat.le_refl _
 | y :: l, 0, h => by
  have := h y rfl
  show f x + sumN f l ≤ f y + sumN f l
  omega
 | y :: l, i + 1, h => by
  have := sumN_set (f := f) (x := x) (l := l) (i := i) (fun z hz => h z hz)
  show f y + sumN f (l.set i x) ≤ f y + sumN f l
  omega
theorem drop1_fit {s : LStore} {p : Int} (h : fitStore s) : fitStore (drop1 s p) := by
 refine ⟨by show (s.refs.set _ _).length ≤ _; rw [List.length_set]; exact h.1, ?_⟩
 unfold drop1
 dsimp only
 split
 ·refine ⟨by rw [List.length_set]; exact h.2.1, fun x hx => ?_⟩
  rcases List.mem_or_eq_of_mem_set hx with hx | rfl
  ·exact h.2.2 x hx
  ·exact ⟨by simp, by simp⟩
 ·exact h.2
theorem drop1_sz {s : LStore} {p : Int} : szStore (drop1 s p) ≤ szStore s := by
 have h1 : szStore (drop1 s p) = (drop1 s p).refs.length + ((drop1 s p).pages.length + sumN szCellS (drop1 s p).pages) := rfl
 have h2 : szStore s = s.refs.length + (s.pages.length + sumN szCellS s.pages) := rfl
 have h3 : (drop1 s p).refs.length = s.refs.length := by show (s.refs.set _ _).length = _; rw [List.length_set]
 rw [h1, h2, h3]
 unfold drop1
 dsimp only
 split
 ·have := sumN_set (f := szCellS) (x := []) (l := s.pages) (i := p.toNat) (fun y _ => by show 0 ≤ _; omega)
  rw [List.length_set]
  omega
 ·omega
theorem dropAll_fit : ∀ {ps : List Int} {s : LStore}, fitStore s → fitStore (dropAll s ps)
 | [], _, h => h
 | p :: ps, s, h => by
  have := dropAll_fit (ps := ps) (s := drop1 s p) (drop1_fit h)
  exact this
theorem dropAll_sz : ∀ {ps : List Int} {s : LStore}, szStore (dropAll s ps) ≤ szStore s
 | [], _ => Nat.le_refl _
 | p :: ps, s => Nat.le_trans (dropAll_sz (ps := ps) (s := drop1 s p)) drop1_sz
theorem set_fit {e : LEngine} {k : Nat} {r : LRequest} (h : fitEngine e) (hr : k < e.requests.length → fitRequest r) : fitEngine ⟨e.model, dropAll e.store (e.requests.getD k default).table.pages, e.requests.set k r⟩ := by
 refine ⟨h.1, dropAll_fit h.2.1, by show (e.requests.set _ _).length ≤ _; rw [List.length_set]; exact h.2.2.1, fun x hx => ?_⟩
 by_cases hk : k < e.requests.length
 ·rcases List.mem_or_eq_of_mem_set hx with hx | rfl
  ·exact h.2.2.2 x hx
  ·exact hr hk
 ·rw [show (⟨e.model, dropAll e.store (e.requests.getD k default).table.pages, e.requests.set k r⟩ : LEngine).requests = e.requests.set k r from rfl, List.set_eq_of_length_le (by omega)] at hx
  exact h.2.2.2 x hx
theorem set_sz {e : LEngine} {k : Nat} {r : LRequest} (hr : k < e.requests.length → szRequest r ≤ szRequest (e.requests.getD k default)) : szEngine ⟨e.model, dropAll e.store (e.requests.getD k default).table.pages, e.requests.set k r⟩ ≤ szEngine e := by
 have h1 : szEngine ⟨e.model, dropAll e.store (e.requests.getD k default).table.pages, e.requests.set k r⟩ = szModel e.model + szStore (dropAll e.store (e.requests.getD k default).table.pages) + ((e.requests.set k r).length + sumN szRequest (e.requests.set k r)) := rfl
 have h2 : szEngine e = szModel e.model + szStore e.store + (e.requests.length + sumN szRequest e.requests) := rfl
 have h3 := dropAll_sz (s := e.store) (ps := (e.requests.getD k default).table.pages)
 have h4 := sumN_set (f := szRequest) (x := r) (l := e.requests) (i := k) (fun y hy => by
  have hk : k < e.requests.length := by
   by_cases hk : k < e.requests.length
   ·exact hk
   ·rw [List.getElem?_eq_none (by omega)] at hy; cases hy
  have := hr hk
  rw [List.getD_eq_getElem?_getD, hy] at this
  exact this)
 rw [h1, h2, List.length_set]
 omega
theorem evE_fit {e : LEngine} {k : Int} (h : fitEngine e) : fitEngine (evE e k) := by
 unfold evE
 split
 ·refine set_fit h fun hk => ?_
  have := h.2.2.2 _ (getD_memR hk)
  exact ⟨this.1, this.2.1, by show ([] : List Int).length ≤ _; simp⟩
 ·exact h
theorem evE_sz {e : LEngine} {k : Int} : szEngine (evE e k) ≤ szEngine e := by
 unfold evE
 split
 ·refine set_sz fun hk => ?_
  show (e.requests.getD k.toNat default).tokens.length + szConfig (e.requests.getD k.toNat default).config + 0 ≤ (e.requests.getD k.toNat default).tokens.length + szConfig (e.requests.getD k.toNat default).config + szTable (e.requests.getD k.toNat default).table
  omega
 ·omega
theorem implEvict_tree {e : LEngine} {k : Int} {g : H2} {bs : List Nat} {ys : List X} (o : OTs g bs ys (eEngine e)) (hs : szEngine e ≤ 1048576) (hrg : rngEngine e) :
  WC2 Tryz.prog W0 33 [.st ys, .raw (.int .i64 k)] g (fun x g' => g.le g' ∧ ∃ zs b, x = .tp [.st zs, .raw (.int .i64 (evK e k))] ∧ OTs g' b zs (eEngine (evE e k)) ∧ Bl (hn g .mk) (hn g' .mk) b) := by
 obtain ⟨F, hF⟩ := o.lent
 refine (lend_tup (.cons hF (.cons lent_raw .nil)) (implEvict_ok (F := F) (k := k) hs)).mono ?_
 rintro x g' ⟨h1, b, ⟨zs, rfl, o'⟩, bl⟩
 exact ⟨h1, zs, b, rfl, o', bl⟩
theorem specEvict_tree {e : LEngine} {k : Int} {g : H2} {bs : List Nat} {ys : List X} (o : OTs g bs ys (eEngine e)) (hs : szEngine e ≤ 1048576) (hrg : rngEngine e) :
  WC2 Tryz.prog W0 32 [.st ys, .raw (.int .i64 k)] g (fun x g' => g.le g' ∧ ∃ zs b, x = .tp [.st zs, .raw (.int .i64 (evK e k))] ∧ OTs g' b zs (eEngine (evE e k)) ∧ Bl (hn g .mk) (hn g' .mk) b) := by
 obtain ⟨F, hF⟩ := o.lent
 refine (lend_tup (.cons hF (.cons lent_raw .nil)) (specEvict_ok (F := F) (k := k) hs hrg)).mono ?_
 rintro x g' ⟨h1, b, ⟨zs, rfl, o'⟩, bl⟩
 exact ⟨h1, zs, b, rfl, o', bl⟩
theorem shEngine {g : H2} {bs : List Nat} {ys : List X} {c : LEngine} (o : OTs g bs ys (eEngine c)) : ∃ s3 s4 s5 s6 s8 s9 s12 s13 s14 s15 s16 , ys = [.raw (.int .i64 c.model.dim), .raw (.int .i64 c.model.heads), .raw (.int .i64 c.model.context), s3, s4, s5, s6, .raw (.int .i64 c.model.head.width), s8, s9, .raw (.int .i64 c.model.head.mul), .raw (.int .i64 c.model.head.shift), s12, s13, s14, s15, s16] ∧ (cellsX s3 = some [s3] ∧ okX s3 = true ∧ isTpX s3 = false) ∧ (cellsX s4 = some [s4] ∧ okX s4 = true ∧ isTpX s4 = false) ∧ (cellsX s5 = some [s5] ∧ okX s5 = true ∧ isTpX s5 = false) ∧ (cellsX s6 = some [s6] ∧ okX s6 = true ∧ isTpX s6 = false) ∧ (cellsX s8 = some [s8] ∧ okX s8 = true ∧ isTpX s8 = false) ∧ (cellsX s9 = some [s9] ∧ okX s9 = true ∧ isTpX s9 = false) ∧ (cellsX s12 = some [s12] ∧ okX s12 = true ∧ isTpX s12 = false) ∧ (cellsX s13 = some [s13] ∧ okX s13 = true ∧ isTpX s13 = false) ∧ (cellsX s14 = some [s14] ∧ okX s14 = true ∧ isTpX s14 = false) ∧ (cellsX s15 = some [s15] ∧ okX s15 = true ∧ isTpX s15 = false) ∧ (cellsX s16 = some [s16] ∧ okX s16 = true ∧ isTpX s16 = false) := by
 obtain ⟨b3, s3, b4, s4, b5, s5, b6, s6, b8, s8, b9, s9, b12, s12, b13, s13, b14, s14, b15, s15, b16, s16, rfl, rfl, o3, o4, o5, o6, o8, o9, o12, o13, o14, o15, o16⟩ := invEngine o
 exact ⟨s3, s4, s5, s6, s8, s9, s12, s13, s14, s15, s16, rfl, o3.cell, o4.cell, o5.cell, o6.cell, o8.cell, o9.cell, o12.cell, o13.cell, o14.cell, o15.cell, o16.cell⟩
theorem markEngine_treeJ {N : Nat} {c : LEngine} {h : H2} {k0 : Int} {bs : List Nat} {ys : List X} (o : OTs h bs ys (eEngine c)) (bl : Bl N (hn h .mk) bs) (hk : 0 ≤ k0 ∧ k0 + 64 * szEngine c ≤ 4611686018427387904) : WC2 Tryz.prog W0 28 [.st ys, .raw (.int .i64 k0)] h (fun r h' => ∃ (k1 : Int) (c' : LEngine), r = .raw (.int .i64 k1) ∧ k0 ≤ k1 ∧ k1 ≤ k0 + 64 * szEngine c ∧ OTs h' bs ys (eEngine c') ∧ (∀ F g, PW Tryz.prog W0 29 [.st (xEngine F c'), .raw (.int .i64 k0)] g (fun y => y = .raw (.int .i64 k1))) ∧ hn h .mk ≤ hn h' .mk ∧ ∀ b, b < hn h .mk → b ∉ bs → h'.get b = h.get b) := by
 obtain ⟨b3, s3, b4, s4, b5, s5, b6, s6, b8, s8, b9, s9, b12, s12, b13, s13, b14, s14, b15, s15, b16, s16, rfl, rfl, o3, o4, o5, o6, o8, o9, o12, o13, o14, o15, o16⟩ := invEngine o
 refine (markEngine_ok (c := c) o3 o4 o5 o6 o8 o9 o12 o13 o14 o15 o16 bl hk).mono ?_
 rintro r h' ⟨k1, z3, z4, z5, z6, z8, z9, z12, z13, z14, z15, z16, h1, h2, h3, ⟨p3, p4, p5, p6, p8, p9, p12, p13, p14, p15, p16⟩, h4, h5, h6⟩
 exact ⟨k1, { c with model := { c.model with merges := z3, embed := z4, layers := z5, gainEnd := z6, head := { c.model.head with rows := z8, scales := z9 }, turns := { c.model.turns with cos := z12, sin := z13 } }, store := { c.store with refs := z14, pages := z15 }, requests := z16 }, h1, h2, h3, outEngine (c := { c with model := { c.model with merges := z3, embed := z4, layers := z5, gainEnd := z6, head := { c.model.head with rows := z8, scales := z9 }, turns := { c.model.turns with cos := z12, sin := z13 } }, store := { c.store with refs := z14, pages := z15 }, requests := z16 }) p3 p4 p5 p6 p8 p9 p12 p13 p14 p15 p16, h4, h5, h6⟩
end Go.Bi
end
section
set_option maxRecDepth 20000
set_option maxHeartbeats 8000000
namespace Go.Bi
open Go.Proofs
open Go.Ai (wrap_i64 wrap_u8)
variable {W0 : World}
theorem FnExactEvict_ok {F0 : Nat → Adr} {e : LEngine} {k : Int} {h : H2} (hf0 : fitEngine e)  (hrg : rngEngine e) : WC2 Tryz.prog W0 8 [.st (xEngine F0 e), .raw (.int .i64 k)] h (fun v h' => v = .raw (.bool true)) := by
 refine begins [[0, 1], [1, 2], [1, 2, 5], [1, 2, 5], [], [1, 2], [1, 2, 6, 7], [1, 2, 6, 7, 8], [1, 2, 6, 7, 8, 9, 10], [], [1, 2, 6, 7, 8, 9, 10], [], [1, 2, 6, 7, 8, 9, 10], [1, 2, 6, 7, 8, 9, 10, 11], [1, 2, 6, 7, 9, 10, 11], [], [1, 2, 6, 7, 9], [1, 2, 6, 7, 9, 12], [1, 2, 6, 7, 9, 12], [1, 2, 6, 7, 9, 12, 13], [1, 2, 6, 7, 9, 12, 13], [], [1, 2, 6, 7, 9, 12, 13], [], [1, 2, 6, 7, 9, 12], [6, 7, 9, 12, 14, 15], [], [9, 12], [9, 12, 13], [12, 13], [], [12, 13], [], []] Tryz.func8 rfl (rs := [.tmp 4]) rfl rfl ?_
 intro wf
 repeat (first | rw [ko] | rw [kr] | simp -dsimp -implicitDefEqProofs only [go_sem, rq1])
 refine pw_intro (szEngine_ok hf0 ⟨by omega, by omega⟩) ?_
 rintro _ n1 hn1 ⟨k1, rfl, hk1⟩
 have hm1 := hn1
 try simp only [hn_push] at hm1
 repeat (first | rw [ko] | rw [kr] | simp -dsimp -implicitDefEqProofs only [go_sem, rq1, hoo])
 refine gz_dec (fun q2 => ?_) (fun q2 => ?_)
 ·repeat (first | rw [ko] | rw [kr] | simp -dsimp -implicitDefEqProofs only [go_sem])
  rfl
 have hsz_e : szEngine e ≤ 1048576 := by omega
 have hfe : fitEngine (evE e k) := evE_fit hf0
 have hszn : szEngine (evE e k) ≤ szEngine e := evE_sz
 repeat (first | rw [ko] | rw [kr] | simp -dsimp -implicitDefEqProofs only [go_sem, rq1, hoo])
 refine wz_intro (toEngine_ok (by omega)) ?_
 rintro _ g3 ⟨l3, ys3, b3, rfl, o3, bl3⟩
 try simp only [hn_up] at bl3
 have nn3 := l3.n
 try simp only [hn_up] at nn3
 have LL3 : h.le g3 := H2.le.trans zale l3
 have ln3 := LL3.n
 have row0 := l3.2 (hn h .mk) zau
 simp -dsimp -implicitDefEqProofs only [go_sem, hoo] at row0
 obtain ⟨s3_3, s3_4, s3_5, s3_6, s3_8, s3_9, s3_12, s3_13, s3_14, s3_15, s3_16, rfl, ce3⟩ := shEngine o3
 repeat (first | rw [ko] | rw [kr] | simp -dsimp -implicitDefEqProofs only [go_sem, rq1, hoo])
 refine wz_intro (specEvict_tree (o3.keep zale (bl3.wide (Nat.le_refl _) (by omega))) (by omega) hrg) ?_
 rintro _ g4 ⟨l4, ys4, b4, rfl, o4, bl4⟩
 try simp only [hn_push, hn_up] at bl4
 have nn4 := l4.n
 try simp only [hn_push, hn_up] at nn4
 have LL4 : g3.le g4 := H2.le.trans zale l4
 have ln4 := LL4.n
 replace row0 := (LL4.2 (hn h .mk) (by omega)).trans row0
 obtain ⟨s4_3, s4_4, s4_5, s4_6, s4_8, s4_9, s4_12, s4_13, s4_14, s4_15, s4_16, rfl, ce4⟩ := shEngine o4
 have ne5 : ((hn h .mk) == (hn g4 .mk)) = false := zne
 have nf5 : ((hn g4 .mk) == (hn h .mk)) = false := zne
 repeat (first | rw [ko] | rw [kr] | simp -dsimp -implicitDefEqProofs only [go_sem, rq1, rq2, ce4, row0, ne5, hoo])
 refine wz_intro (toEngine_ok (by omega)) ?_
 rintro _ g6 ⟨l6, ys6, b6, rfl, o6, bl6⟩
 try simp only [hn_push] at bl6
 have nn6 := l6.n
 try simp only [hn_push] at nn6
 have LL6 : g4.le g6 := H2.le.trans zale l6
 have ln6 := LL6.n
 replace o4 := o4.keep LL6 (bl4.wide (Nat.le_refl _) (by omega))
 replace row0 := (LL6.2 (hn h .mk) (by omega)).trans row0
 have row1 := l6.2 (hn g4 .mk) zau
 simp -dsimp -implicitDefEqProofs only [go_sem, hoo] at row1
 obtain ⟨s6_3, s6_4, s6_5, s6_6, s6_8, s6_9, s6_12, s6_13, s6_14, s6_15, s6_16, rfl, ce6⟩ := shEngine o6
 have ne7 : ((hn h .mk) == (hn g6 .mk)) = false := zne
 have nf7 : ((hn g6 .mk) == (hn h .mk)) = false := zne
 have ne8 : ((hn g4 .mk) == (hn g6 .mk)) = false := zne
 have nf8 : ((hn g6 .mk) == (hn g4 .mk)) = false := zne
 repeat (first | rw [ko] | rw [kr] | simp -dsimp -implicitDefEqProofs only [go_sem, rq1, rq2, ce6, hoo])
 refine wz_intro (implEvict_tree (o6.keep zale (bl6.wide (Nat.le_refl _) (by omega))) (by omega) hrg) ?_
 rintro _ g9 ⟨l9, ys9, b9, rfl, o9, bl9⟩
 try simp only [hn_push] at bl9
 have nn9 := l9.n
 try simp only [hn_push] at nn9
 have LL9 : g6.le g9 := H2.le.trans zale l9
 have ln9 := LL9.n
 replace o4 := o4.keep LL9 (bl4.wide (Nat.le_refl _) (by omega))
 replace o6 := o6.keep LL9 (bl6.wide (Nat.le_refl _) (by omega))
 replace row0 := (LL9.2 (hn h .mk) (by omega)).trans row0
 replace row1 := (LL9.2 (hn g4 .mk) (by omega)).trans row1
 have row2 := l9.2 (hn g6 .mk) zau
 simp -dsimp -implicitDefEqProofs only [go_sem, hoo] at row2
 obtain ⟨s9_3, s9_4, s9_5, s9_6, s9_8, s9_9, s9_12, s9_13, s9_14, s9_15, s9_16, rfl, ce9⟩ := shEngine o9
 have ne10 : ((hn h .mk) == (hn g9 .mk)) = false := zne
 have nf10 : ((hn g9 .mk) == (hn h .mk)) = false := zne
 have ne11 : ((hn g4 .mk) == (hn g9 .mk)) = false := zne
 have nf11 : ((hn g9 .mk) == (hn g4 .mk)) = false := zne
 have ne12 : ((hn g6 .mk) == (hn g9 .mk)) = false := zne
 have nf12 : ((hn g9 .mk) == (hn g6 .mk)) = false := zne
 repeat (first | rw [ko] | rw [kr] | simp -dsimp -implicitDefEqProofs only [go_sem, rq1, rq2, ce9, row1, ne11, hoo])
 refine pw_intro (eqEngine_tree (o9.keep zale (bl9.wide (Nat.le_refl _) (by omega))) (o4.keep zale (bl4.wide (Nat.le_refl _) (by omega))) hfe) ?_
 rintro _ n13 hn13 rfl
 have hm13 := hn13
 try simp only [hn_push] at hm13
 repeat (first | rw [ko] | rw [kr] | simp -dsimp -implicitDefEqProofs only [go_sem, rq1, hoo])
 refine dq_intro [(0, []), (1, []), (2, [0]), (3, []), (4, [])] (by kernel_rfl) ?_
 repeat (first | rw [ko] | rw [kr] | simp -dsimp -implicitDefEqProofs only [go_sem, rq1, ne10, ne12, row0, row2, hoo])
 refine wz_intro (toEngine_ok (by omega)) ?_
 rintro _ g14 ⟨l14, ys14, b14, rfl, o14, bl14⟩
 try simp only [hn_up] at bl14
 have nn14 := l14.n
 try simp only [hn_up] at nn14
 have LL14 : g9.le g14 := H2.le.trans zale l14
 have ln14 := LL14.n
 replace o4 := o4.keep LL14 (bl4.wide (Nat.le_refl _) (by omega))
 replace o6 := o6.keep LL14 (bl6.wide (Nat.le_refl _) (by omega))
 replace o9 := o9.keep LL14 (bl9.wide (Nat.le_refl _) (by omega))
 replace row0 := (LL14.2 (hn h .mk) (by omega)).trans row0
 replace row1 := (LL14.2 (hn g4 .mk) (by omega)).trans row1
 replace row2 := (LL14.2 (hn g6 .mk) (by omega)).trans row2
 have row3 := l14.2 (hn g9 .mk) zau
 simp -dsimp -implicitDefEqProofs only [go_sem, hoo] at row3
 obtain ⟨s14_3, s14_4, s14_5, s14_6, s14_8, s14_9, s14_12, s14_13, s14_14, s14_15, s14_16, rfl, ce14⟩ := shEngine o14
 rw [kq]
 refine ⟨by simp -dsimp -implicitDefEqProofs only [go_sem, rq1, row2, hoo], ?_⟩
 repeat (first | rw [ko] | rw [kr] | simp -dsimp -implicitDefEqProofs only [go_sem, hoo])
 refine pw_intro (eqEngine_tree (o6.keep zale (bl6.wide (Nat.le_refl _) (by omega))) (o14.keep zale (bl14.wide (Nat.le_refl _) (by omega))) hf0) ?_
 rintro _ n15 hn15 rfl
 have hm15 := hn15
 try simp only [hn_push, hn_up] at hm15
 repeat (first | rw [ko] | rw [kr] | simp -dsimp -implicitDefEqProofs only [go_sem, rq1, row2, hoo])
 refine wz_intro (markEngine_treeJ (o6.keep zale (bl6.wide (Nat.le_refl _) (by omega))) (bl6.wide (Nat.le_refl _) zau) ⟨by omega, by omega⟩) ?_
 rintro _ g16 ⟨k16, z16, rfl, lo16, hi16, o6', hd16, nn16, fr16⟩
 try simp only [hn_up] at nn16
 have FR16 : ∀ {b : Nat}, b < hn g14 .mk → b ∉ b6 → g16.get b = g14.get b := fun {b} h1 h2 => (show g16.get b = _ from fr16 b zau h2).trans (by exact zfz)
 replace o4 := o4.frame fun b hb => FR16 (by have := (bl4.2 b hb).2; omega) (fun hx => by have := bl4.2 b hb; have := bl6.2 b hx; omega)
 replace o9 := o9.frame fun b hb => FR16 (by have := (bl9.2 b hb).2; omega) (fun hx => by have := bl9.2 b hb; have := bl6.2 b hx; omega)
 replace o6 := o6'
 replace row0 := (show hg g16 (hn h .mk) .mk = _ from FR16 (by omega) (fun hx => by have := bl6.2 _ hx; omega)).trans row0
 replace row1 := (show hg g16 (hn g4 .mk) .mk = _ from FR16 (by omega) (fun hx => by have := bl6.2 _ hx; omega)).trans row1
 replace row3 := (show hg g16 (hn g9 .mk) .mk = _ from FR16 (by omega) (fun hx => by have := bl6.2 _ hx; omega)).trans row3
 have kp16 : 0 ≤ k16 := by omega
 have kq16 : ¬ k16 < 0 := by omega
 repeat (first | rw [ko] | rw [kr] | simp -dsimp -implicitDefEqProofs only [go_sem, rq1, kq16, row1, row3, hoo])
 refine pw_intro (eqEngine_tree (o9.keep zale (bl9.wide (Nat.le_refl _) (by omega))) (o4.keep zale (bl4.wide (Nat.le_refl _) (by omega))) hfe) ?_
 rintro _ n17 hn17 rfl
 have hm17 := hn17
 try simp only [hn_push, hn_up] at hm17
 repeat (first | rw [ko] | rw [kr] | simp -dsimp -implicitDefEqProofs only [go_sem, rq1, row3, hoo])
 refine wz_intro (markEngine_treeJ (o9.keep zale (bl9.wide (Nat.le_refl _) (by omega))) (bl9.wide (Nat.le_refl _) zau) ⟨by omega, by omega⟩) ?_
 rintro _ g18 ⟨k18, z18, rfl, lo18, hi18, o9', hd18, nn18, fr18⟩
 try simp only [hn_up] at nn18
 have FR18 : ∀ {b : Nat}, b < hn g16 .mk → b ∉ b9 → g18.get b = g16.get b := fun {b} h1 h2 => (show g18.get b = _ from fr18 b zau h2).trans (by exact zfz)
 replace o4 := o4.frame fun b hb => FR18 (by have := (bl4.2 b hb).2; omega) (fun hx => by have := bl4.2 b hb; have := bl9.2 b hx; omega)
 replace o9 := o9'
 replace row0 := (show hg g18 (hn h .mk) .mk = _ from FR18 (by omega) (fun hx => by have := bl9.2 _ hx; omega)).trans row0
 replace row1 := (show hg g18 (hn g4 .mk) .mk = _ from FR18 (by omega) (fun hx => by have := bl9.2 _ hx; omega)).trans row1
 replace row3 := (show hg g18 (hn g9 .mk) .mk = _ from FR18 (by omega) (fun hx => by have := bl9.2 _ hx; omega)).trans row3
 have kp18 : 0 ≤ k18 := by omega
 have kq18 : ¬ k18 < 0 := by omega
 repeat (first | rw [ko] | rw [kr] | simp -dsimp -implicitDefEqProofs only [go_sem, rq1, row3, hoo])
 refine pw_intro (heldEngine_tree (o9.keep zale (bl9.wide (Nat.le_refl _) (by omega))) hd18) ?_
 rintro _ n19 hn19 rfl
 have hm19 := hn19
 try simp only [hn_push, hn_up] at hm19
 repeat (first | rw [ko] | rw [kr] | simp -dsimp -implicitDefEqProofs only [go_sem, rq1, kq18, row0, hoo])
 refine wz_intro (toEngine_ok (by omega)) ?_
 rintro _ g20 ⟨l20, ys20, b20, rfl, o20, bl20⟩
 try simp only [hn_up] at bl20
 have nn20 := l20.n
 try simp only [hn_up] at nn20
 have LL20 : g18.le g20 := H2.le.trans zale l20
 have ln20 := LL20.n
 replace o4 := o4.keep LL20 (bl4.wide (Nat.le_refl _) (by omega))
 replace o9 := o9.keep LL20 (bl9.wide (Nat.le_refl _) (by omega))
 replace row1 := (LL20.2 (hn g4 .mk) (by omega)).trans row1
 replace row3 := (LL20.2 (hn g9 .mk) (by omega)).trans row3
 obtain ⟨s20_3, s20_4, s20_5, s20_6, s20_8, s20_9, s20_12, s20_13, s20_14, s20_15, s20_16, rfl, ce20⟩ := shEngine o20
 repeat (first | rw [ko] | rw [kr] | simp -dsimp -implicitDefEqProofs only [go_sem, rq1, hoo])
 refine wz_intro (implEvict_tree (o20.keep zale (bl20.wide (Nat.le_refl _) (by omega))) (by omega) hrg) ?_
 rintro _ g21 ⟨l21, ys21, b21, rfl, o21, bl21⟩
 try simp only [hn_push, hn_up] at bl21
 have nn21 := l21.n
 try simp only [hn_push, hn_up] at nn21
 have LL21 : g20.le g21 := H2.le.trans zale l21
 have ln21 := LL21.n
 replace o4 := o4.keep LL21 (bl4.wide (Nat.le_refl _) (by omega))
 replace o9 := o9.keep LL21 (bl9.wide (Nat.le_refl _) (by omega))
 replace row1 := (LL21.2 (hn g4 .mk) (by omega)).trans row1
 replace row3 := (LL21.2 (hn g9 .mk) (by omega)).trans row3
 obtain ⟨s21_3, s21_4, s21_5, s21_6, s21_8, s21_9, s21_12, s21_13, s21_14, s21_15, s21_16, rfl, ce21⟩ := shEngine o21
 have ne22 : ((hn h .mk) == (hn g21 .mk)) = false := zne
 have nf22 : ((hn g21 .mk) == (hn h .mk)) = false := zne
 have ne23 : ((hn g4 .mk) == (hn g21 .mk)) = false := zne
 have nf23 : ((hn g21 .mk) == (hn g4 .mk)) = false := zne
 have ne24 : ((hn g6 .mk) == (hn g21 .mk)) = false := zne
 have nf24 : ((hn g21 .mk) == (hn g6 .mk)) = false := zne
 have ne25 : ((hn g9 .mk) == (hn g21 .mk)) = false := zne
 have nf25 : ((hn g21 .mk) == (hn g9 .mk)) = false := zne
 repeat (first | rw [ko] | rw [kr] | simp -dsimp -implicitDefEqProofs only [go_sem, rq1, rq2, ce21, row1, ne23, hoo])
 refine pw_intro (eqEngine_tree (o21.keep zale (bl21.wide (Nat.le_refl _) (by omega))) (o4.keep zale (bl4.wide (Nat.le_refl _) (by omega))) hfe) ?_
 rintro _ n26 hn26 rfl
 have hm26 := hn26
 try simp only [hn_push] at hm26
 repeat (first | rw [ko] | rw [kr] | simp -dsimp -implicitDefEqProofs only [go_sem, rq1, ne25, row3, hoo])
 refine pw_intro (heldEngine_tree (o9.keep zale (bl9.wide (Nat.le_refl _) (by omega))) hd18) ?_
 rintro _ n27 hn27 rfl
 have hm27 := hn27
 try simp only [hn_up] at hm27
 repeat (first | rw [ko] | rw [kr] | simp -dsimp -implicitDefEqProofs only [go_sem, rq1, kq18, hoo])
 rfl
end Go.Bi
end
