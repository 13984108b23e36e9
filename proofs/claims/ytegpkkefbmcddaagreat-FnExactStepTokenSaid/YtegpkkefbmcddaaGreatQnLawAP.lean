/- Own lemmas that the theorem of this claim needs: the abstract machine and walks of functions. -/
import Derived.Test.YtegpkkefbmcddaaGreatQnLawAO
import Derived.Below
import Derived.WideShapes
set_option linter.unusedSimpArgs false
set_option linter.unusedVariables false
open Nat renaming reduceBEq → sQ1, reduceAdd → sQ2, reduceLeDiff → sQ3, reduceMul → sQ4
open Int renaming reduceLE → sQ5, reduceLT → sQ6, reduceBEq → sQ7
section
set_option maxRecDepth 20000
namespace Go.Bi
open Go.Proofs
open Go.Ai (wrap_i64 Heap)
variable {W0 : World} {P : Program}
set_option maxHeartbeats 8000000
theorem partAll {q : Nat → Prop} {F : Nat → Adr} {p : LPart} {y : X} (h : AllB q (.tp [.st (xPart F p), y])) : AllB q (.sl (F 1) 1 (ints p.values)) := by
 cases h with
 | tp h =>
  have h1 := h _ List.mem_cons_self
  cases h1 with
  | st h2 => exact h2 _ (List.mem_cons_of_mem _ List.mem_cons_self)
theorem headsB_i {h : Int} {f : Adr} {x : List Int} {n size : Nat} {g : H2} (e : h = (n : Nat)) (hn2 : n = 1 ∨ n = 2) (hs : 1 ≤ size) (hl : x.length = n * size) (h8 : x.length ≤ 8) : PW Tryz.prog W0 157 [.sl f 1 (ints x), .raw (.int .i64 h)] g (fun y => ∃ f, y = .tp [.sl f 1 (rIntSS (headsL x size n)), .raw (.bool true)]) := by
 subst e
 exact headsB_ok hn2 hs hl h8
theorem pm_call {K : KT} {f : FuncId} {xs : List X} {g : H2} {p : Option Nat} {r0 s0 r s : Int} {Q : X → Prop} (m : Mt p g r0 s0) (c : Mt p g r0 s0 → PM P W0 f xs g p r s Q)
    (hk : ∀ y n, hn g .mk ≤ n → Mt p ((gM g p r s).up n) r s → OnM p g ((gM g p r s).up n) → Q y → kz K y ((gM g p r s).up n) .mk) : wz P W0 f xs g K .mk :=
  pm_intro (c m) fun y n h q => hk y n h (Mt.up (Mt.set m) (by rw [hn_gM]; exact h)) (OnM.up (OnM.gM OnM.refl) (by rw [hn_gM]; exact h)) q
theorem lit_all {p : Nat → Prop} {b n z : Nat} {cs : List X} {ts : List T} (ht : toTs cs = some ts) (hl : cs.length = n * z) (hb : p b) (hc : ∀ x ∈ cs, (∃ v, x = .raw v) ∨ ∃ f k es, x = .sl f k es ∧ AllB p (.sl f k es)) : AllB p (.sl (litA b n z cs) z (chunk z n ts)) :=
 Fz.all (p := p) (q := p) (fun _ h => h) (fun _ h => h) (Fz.own (g := ⟨0, fun _ => some ⟨z, cs⟩⟩) (b := b) (n := n) (z := z) (cs := cs) (cs' := cs) rfl hb hl rfl (fun i hi hi' => by
  rcases hc _ (List.getElem_mem hi) with ⟨v, e⟩ | ⟨f, k, es, e, ha⟩
  ·rw [e]; exact .raw
  ·rw [e]; exact .sl ha) ht)
theorem mkL_all {p : Nat → Prop} {f : Adr} : ∀ {ts : List T} {j : Nat}, (∀ q t, ts[q]? = some t → AllT p (under f (j + q)) t) → ∀ x ∈ mkL f j ts, AllB p x
 | [], _, _, x, hx => by simp [mkL] at hx
 | t :: ts, j, h, x, hx => by
  simp only [mkL, List.mem_cons] at hx
  rcases hx with rfl | hx
  ·have h0 := h 0 t rfl
   rw [Nat.add_zero] at h0
   cases t with
   | v y => exact .raw
   | l z es => exact .sl h0
  ·exact mkL_all (fun q t' hq => by have := h (q + 1) t' hq; rwa [show j + (q + 1) = j + 1 + q by omega] at this) x hx
theorem flat_all {p : Nat → Prop} {f : Adr} {z : Nat} {e : List T} (h : AllB p (.sl f z [e])) : ∀ x ∈ flatX f 0 [e], AllB p x := fun x hx => by
 simp only [flatX, List.append_nil] at hx
 cases h with
 | sl h =>
  cases h with
  | l _ h2 => exact mkL_all (fun q t hq => by rw [Nat.zero_add]; exact h2 0 q t (by simpa using hq)) x hx
def RowB {α : Type} (e : α → List T) (z N : Nat) (g : H2) (v : X) (l : List α) : Prop :=
 (v = .raw (.slice none 0 0) ∧ l = []) ∨ ∃ b cs, v = .raw (.slice (some ⟨b, 0, none⟩) l.length l.length) ∧ N ≤ b ∧ b < hn g .mk ∧ hg g b .mk = some ⟨z, cs⟩ ∧ ERow e z cs l ∧ ∀ x ∈ cs, AllB (fun c => N ≤ c) x
theorem RowB.own {α : Type} {e : α → List T} {z N : Nat} {g : H2} {v : X} {l : List α} (r : RowB e z N g v l) : ∃ cs, Own N g v z l.length cs ∧ ERow e z cs l ∧ ∀ x ∈ cs, AllB (fun c => N ≤ c) x := by
 rcases r with ⟨rfl, rfl⟩ | ⟨b, cs, rfl, h1, h2, h3, h4, h5⟩
 ·exact ⟨[], Own.nil, .nil, by simp⟩
 ·exact ⟨cs, ⟨h4.2.2, .inr ⟨b, rfl, h1, h2, h3⟩⟩, h4, h5⟩
theorem RowB.cell {α : Type} {e : α → List T} {z N : Nat} {g : H2} {v : X} {l : List α} (r : RowB e z N g v l) : cellsX v = some [v] ∧ okX v = true ∧ isTpX v = false := by
 rcases r with ⟨rfl, _⟩ | ⟨b, cs, rfl, _⟩ <;> exact ⟨rfl, rfl, rfl⟩
theorem RowB.lt {α : Type} {e : α → List T} {z N : Nat} {g : H2} {v : X} {l : List α} (r : RowB e z N g v l) : ∀ c, blockOf v = some c → N ≤ c ∧ c < hn g .mk := fun c h => by
 rcases r with ⟨rfl, _⟩ | ⟨b, cs, rfl, h1, h2, _⟩
 ·cases h
 ·simp only [blockOf, Option.some.injEq] at h; subst h; exact ⟨h1, h2⟩
theorem RowB.keep {α : Type} {e : α → List T} {z N : Nat} {g g' : H2} {v : X} {l : List α} (r : RowB e z N g v l) (hn' : hn g .mk ≤ hn g' .mk) (h : ∀ c, blockOf v = some c → hg g' c .mk = hg g c .mk) : RowB e z N g' v l := by
 rcases r with h0 | ⟨b, cs, rfl, h1, h2, h3, h4, h5⟩
 ·exact .inl h0
 ·exact .inr ⟨b, cs, rfl, h1, by omega, (h b rfl).trans h3, h4, h5⟩
theorem RowB.on {α : Type} {e : α → List T} {z N : Nat} {g g' : H2} {v : X} {l : List α} {p : Option Nat} (r : RowB e z N g v l) (o : OnM p g g') (hN : ∀ b, p = some b → b < N) : RowB e z N g' v l :=
 r.keep o.1 fun c hc => o.2 c (r.lt c hc).2 fun h => by have := hN c h; have := (r.lt c hc).1; omega
theorem RowB.fz {α : Type} {e : α → List T} {z N : Nat} (he : Ele e z) {p : Nat → Prop} {g : H2} {v : X} {l : List α} (r : RowB e z N g v l) (hp : ∀ b, N ≤ b → p b) : ∃ f, Fz p (fun c => N ≤ c) g v (.sl f z (l.map e)) := by
 obtain ⟨cs, o, h, h5⟩ := r.own
 have := Own.fz (p := p) (q := fun c => N ≤ c) o hp (fun c hx => by
  have ha := h5 c hx
  rcases h.2.1 c hx with ⟨n, rfl⟩ | ⟨f, k, es, rfl⟩
  ·exact .raw
  ·exact .sl ha) h.1
 rwa [chunk_E he] at this
theorem appB {α : Type} {e : α → List T} {z : Nat} (hE : Ele e (z + 1)) {g : H2} {K : KT} {t u U y N : Nat} {zs : List Value} {l : List α} {a : α} {v : X} {f : Adr} (he : Go.Ai.elt? P t = some (U, z + 1, y)) (hz : Go.Ai.zr? P U = some zs) (hl : zs.length = z + 1) (hu : Go.Ai.cls? P u = some .sl)
  (hy : y ≤ 1000) (hx : RowB e (z + 1) N g v l) (hN : N ≤ hn g .mk) (hn0 : l.length ≤ 1048576) (hall : AllB (fun c => N ≤ c) (.sl f (z + 1) [e a]))
  (hk : ∀ v' g', RowB e (z + 1) N g' v' (l ++ [a]) → blockOf v' = some (hn g .mk + 1) → hn g' .mk = hn g .mk + 2 → (∀ c, c < hn g .mk → blockOf v ≠ some c → hg g' c .mk = hg g c .mk) → kz K v' g' .mk) :
  az (biz P (g.up (hn g .mk + 1)) .append [t, u] [v, .sl f (z + 1) [e a]] .mk) K .mk := by
 obtain ⟨cs, ow, hc, h5⟩ := hx.own
 have h2 : ERow e (z + 1) (flatX f 0 ([a].map e)) [a] := flat_E hE
 refine append_new (z := z) (N := N) (news := flatX f 0 ([a].map e)) he hz hl hu (Own.keep ow (le_up (H2.le.refl _) (Nat.le_succ (hn g .mk)))) ?_ (by have := h2.2.2; simpa using this) h2.ok ?_ ?_
 ·simp only [srcX, if_true, List.map_cons, List.map_nil, List.length_cons, List.length_nil]
 ·have : Go.Ai.most = 1099511627776 := rfl
  have : (l.length + 1) * (y + 1) ≤ 1048577 * 1001 := Nat.mul_le_mul (by omega) (by omega)
  omega
 intro g' h3 h4 h6
 rw [hn_up] at h3 h4
 refine hk _ g' (.inr ⟨hn g .mk + 1, _, by rw [List.length_append]; rfl, by omega, by omega, h3, hc.app h2, fun x hx2 => ?_⟩) rfl h4 fun c h7 h8 => h6 c (by rw [hn_up]; omega) h8
 rcases List.mem_append.1 hx2 with h | h
 ·exact h5 x h
 ·exact flat_all hall x h
theorem keyValueB_ok {F : Nat → Adr} {m : LModel} {b : Nat} {r s : Int} {f : Adr} {x : List Int} {i k : Nat} {g : H2} (mt : Mt (some b) g r s) (ht : ModT m) (hi : i < m.layers.length) (hk : (k : Int) < m.context) (hx : VecM m 1000 x) :
  PM Tryz.prog W0 108 [.st (xModel F m), .raw (.int .i64 i), .raw (.int .i64 k), .sl f 1 (ints x), .raw (.pointer (some ⟨b, 0, none⟩))] g (some b) (kvR (m.layers.getD i default) x r) s fun y => (∃ f1 f2, y = .tp [.sl f1 2 (rPartS (keysI m (m.layers.getD i default) k x)), .sl f2 2 (rPartS (valsI m (m.layers.getD i default) x)), .raw (.bool true)]) ∧ AllB (fun b => hn g .mk ≤ b) y := by
 refine (PM.of (q := fun b => hn g .mk ≤ b) (Q := fun y => ∃ f1 f2, y = .tp [.sl f1 2 (rPartS (keysI m (m.layers.getD i default) k x)), .sl f2 2 (rPartS (valsI m (m.layers.getD i default) x)), .raw (.bool true)]) mt ?_).mono fun y ⟨h1, h2⟩ => ⟨h1, h2.imp fun b hb => hb.elim id id⟩
 have hlay := ht.lay i hi
 obtain ⟨y1, y2, y3, y4, y5, y6, y7, y8, y9⟩ := lay_t hlay
 have hg1 := gain_t y1
 have hl := hx.len ht
 have hh : VecM m 127 (normI x (m.layers.getD i default).gain1) := hx.norm
 have hhl := hh.len ht
 have hkm := with_t y5
 have hvm := with_t y6
 have hd := ht.dim
 have ht2 := turns_t ht.turns
 obtain ⟨s1, s2, s3, s4, s5, s6, s7⟩ := size_t ht
 have hnat := heads_nat ht
 have hpl := ht2.2.2.2.2 k hk
 rw [s4] at hpl
 have hkv : VecM m 127 (applyI (m.layers.getD i default).k (normI x (m.layers.getD i default).gain1)) := VecM.app y5 ht
 have hkl := hkv.len ht
 have htv : VecM m 127 (turnM m k (applyI (m.layers.getD i default).k (normI x (m.layers.getD i default).gain1))) := VecM.turn hkv
 have hvv : VecM m 127 (applyI (m.layers.getD i default).v (normI x (m.layers.getD i default).gain1)) := VecM.app y6 ht
 have htl := htv.len ht
 have hvl := hvv.len ht
 have hz : (m.heads == 0) = false := by rw [beq_eq_false_iff_ne]; have := ht.heads; omega
 have wsz := wrapS (x := (sizeH m : Int)) (by omega)
 refine begins [[0, 1, 2, 3, 4], [1, 2, 3, 4, 5], [2, 3, 4, 5, 13], [2, 4, 5, 13, 14, 15], [], [2, 4, 5, 13, 14], [2, 4, 5, 13, 14], [2, 5, 13, 14], [2, 5, 13, 14, 16], [2, 5, 16, 18], [5, 16, 18], [5, 18, 20], [5, 20, 22], [5, 20, 22, 24], [5, 20, 22, 24, 25], [5, 20, 22, 24, 25, 26], [5, 20, 22, 24, 25, 26], [5, 20, 22, 24, 25, 26], [5, 20, 22, 24, 25, 26, 27], [5, 20, 22, 24, 25, 26, 27, 29], [5, 20, 22, 24, 25, 26, 29], [24, 25]] Tryz.func108 rfl (rs := [.tmp 10, .tmp 11, .tmp 12]) rfl rfl ?_
 intro wf
 have hne : (hn g .mk == hn g .mk + 1) = false := by simp
 have p1 := mt.ne (c := hn g .mk) (Nat.le_refl _)
 have p2 := mt.ne (c := hn g .mk + 1) (by omega)
 repeat (first | rw [ko] | rw [kr] | simp -dsimp -implicitDefEqProofs only [go_sem, sQ1, sQ2, sQ3, hoo, hi])
 refine pw_intro (TI.pw (normB_ok hx.2 (by omega) (by omega) (by omega) hg1.2.1)) ?_
 rintro _ n1 hn1 ⟨⟨f1, rfl⟩, _⟩
 simp only [hn_push, hn_set] at hn1
 repeat (first | rw [ko] | rw [kr] | simp -dsimp -implicitDefEqProofs only [go_sem, sQ1, hoo])
 refine pm_call (by exact Mt.up (Mt.put (mt.push.push) p2) (by simp only [hn_push, hn_set]; omega)) (fun mt1 => sumsB_ok (F := fun j => under (under (F 5) i) (j + 6)) mt1 hkm.1 (by omega) hh.2) ?_
 rintro _ n2 hn2 mt2 on2 rfl
 simp only [hn_up] at hn2
 repeat (first | rw [ko] | rw [kr] | simp -dsimp -implicitDefEqProofs only [go_sem, sQ1, hoo, hg_gM p2])
 refine pm_call (by exact mt2) (fun mt2 => sumsB_ok (F := fun j => under (under (F 5) i) (j + 11)) mt2 hvm.1 (by omega) hh.2) ?_
 rintro _ n3 hn3 mt3 on3 rfl
 simp only [hn_up] at hn3
 repeat (first | rw [ko] | rw [kr] | simp -dsimp -implicitDefEqProofs only [go_sem, sQ1, hoo, hg_gM p2])
 refine pw_intro (TI.pw (applyB_ok (F := fun j => under (under (F 5) i) (j + 6)) hkm.1 (by omega) hh.2)) ?_
 rintro _ n4 hn4 ⟨⟨f4, rfl⟩, _⟩
 simp only [hn_up] at hn4
 repeat (first | rw [ko] | rw [kr] | simp -dsimp -implicitDefEqProofs only [go_sem, sQ1, hoo, hg_gM p2])
 refine pw_intro (TI.pw (applyB_ok (F := fun j => under (under (F 5) i) (j + 11)) hvm.1 (by omega) hh.2)) ?_
 rintro _ n5 hn5 ⟨⟨f5, rfl⟩, _⟩
 simp only [hn_up] at hn5
 repeat (first | rw [ko] | rw [kr] | simp -dsimp -implicitDefEqProofs only [go_sem, sQ1, hoo])
 refine dq_intro [(0, []), (1, []), (2, []), (3, []), (4, []), (5, []), (6, []), (7, []), (8, []), (9, []), (10, []), (11, []), (12, []), (13, [])] (by kernel_rfl) ?_
 repeat (first | rw [ko] | rw [kr] | simp -dsimp -implicitDefEqProofs only [go_sem, sQ1, hoo, hne, hg_gM p1, hz, s3, wsz])
 refine pw_intro (TI.pw (turnAllB_ok (F := fun j => F (j + 12)) (t := m.turns) (hd := sizeH m) s1 (by have := hkv.1; rw [this, ← s2, Nat.mul_mod_left]) (by omega) hkv.2 (by omega) (by omega) (by omega) (by omega) (by omega) hpl.1.2 hpl.2.2)) ?_
 rintro y n6 hn6 ⟨⟨f6, hy⟩, _⟩
 obtain rfl : y = .tp [.sl f6 1 (ints (turnM m k (applyI (m.layers.getD i default).k (normI x (m.layers.getD i default).gain1)))), .raw (.bool true)] := hy
 simp only [hn_up] at hn6
 try (rw [kq]; refine ⟨zsm, ?_⟩)
 repeat (first | rw [ko] | rw [kr] | simp -dsimp -implicitDefEqProofs only [go_sem, sQ1, hoo, hne, hg_gM p1])
 refine pw_intro (headsB_i hnat (n := m.heads.toNat) (size := sizeH m) (by omega) (by omega) (by rw [htv.1, s2]) (by omega)) ?_
 rintro _ n7 hn7 ⟨f7, rfl⟩
 simp only [hn_up] at hn7
 repeat (first | rw [ko] | rw [kr] | simp -dsimp -implicitDefEqProofs only [go_sem, sQ1, hoo, hne, hg_gM p1])
 refine pw_intro (headsB_i hnat (n := m.heads.toNat) (size := sizeH m) (by omega) (by omega) (by rw [hvv.1, s2]) (by omega)) ?_
 rintro _ n8 hn8 ⟨f8, rfl⟩
 simp only [hn_up] at hn8
 have nk : (keysI m (m.layers.getD i default) k x).length = m.heads.toNat := by simp [keysI]
 have nv : (valsI m (m.layers.getD i default) x).length = m.heads.toNat := by simp [valsI]
 have hNp : ∀ c, (some b : Option Nat) = some c → c < hn g .mk + 2 := fun c e => by have := (mt c e).1; omega
 have q0 : (some b : Option Nat) ≠ some (hn g .mk) := fun e => by have := (mt _ e).1; omega
 have e8 : (hn g .mk == n8) = false := zne
 have e9 : (hn g .mk == n8 + 1) = false := zne
 have e10 : (n8 == n8 + 1) = false := by simp
 repeat (first | rw [ko] | rw [kr] | simp -dsimp -implicitDefEqProofs only [go_sem, sQ1, sQ2, sQ3, hoo])
 refine lz_keep [5, 20, 22] (fun mm e h' => ∃ (j : Nat) (v4 v5 : X), OnM (some b) g h' ∧ hn g .mk + 2 ≤ hn h' .mk ∧ Mt (some b) h' (kvR (m.layers.getD i default) x r) s ∧ hg h' (hn g .mk) .mk = some ⟨14, [.raw (.int .i64 m.dim), .raw (.int .i64 m.heads), .raw (.int .i64 m.context), .sl (F 3) 2 (rMergeS m.merges), .sl (F 4) 1 (rIntSS m.embed), .sl (F 5) 32 (rLayerS m.layers), .sl (F 6) 1 (ints m.gainEnd), .raw (.int .i64 m.head.width), .sl (F 8) 1 (rIntSS m.head.rows), .sl (F 9) 1 (rIntSS m.head.scales), .raw (.int .i64 m.head.mul), .raw (.int .i64 m.head.shift), .sl (F 12) 1 (rIntSS m.turns.cos), .sl (F 13) 1 (rIntSS m.turns.sin)]⟩ ∧ look e 26 .mk = .raw (.int .i64 (j : Nat)) ∧ look e 24 .mk = v4 ∧ look e 25 .mk = v5 ∧ mm + j = m.heads.toNat ∧ RowB ePart 2 (hn g .mk + 2) h' v4 ((keysI m (m.layers.getD i default) k x).take j) ∧ RowB ePart 2 (hn g .mk + 2) h' v5 ((valsI m (m.layers.getD i default) x).take j) ∧ ∀ c, blockOf v4 = some c → blockOf v5 ≠ some c) m.heads.toNat ?_ ?_
 ·refine ⟨0, _, _, OnM.push (OnM.push (OnM.up (OnM.up (OnM.up (OnM.up (OnM.up (OnM.trans (OnM.trans (OnM.up (OnM.put (OnM.push (OnM.push OnM.refl)) (by omega)) (by simp only [hn_push, hn_set]; omega)) on2) on3) (by simp only [hn_up]; omega)) (by simp only [hn_up]; omega)) (by simp only [hn_up]; omega)) (by simp only [hn_up]; omega)) (by simp only [hn_up]; omega))), by simp only [hn_push, hn_up]; omega, Mt.push (Mt.push (Mt.up (Mt.up (Mt.up (Mt.up (Mt.up mt3 (by simp only [hn_up]; omega)) (by simp only [hn_up]; omega)) (by simp only [hn_up]; omega)) (by simp only [hn_up]; omega)) (by simp only [hn_up]; omega))), by simp -dsimp -implicitDefEqProofs only [go_sem, hoo, hne, e8, e9, hg_gM p1], zsm, by simp -dsimp -implicitDefEqProofs only [go_sem] <;> rfl, by simp -dsimp -implicitDefEqProofs only [go_sem] <;> rfl, by omega, .inr ⟨n8, [], rfl, by omega, by simp only [hn_push, hn_up]; omega, by simp -dsimp -implicitDefEqProofs only [go_sem, hoo, e10], .nil, by simp⟩, .inr ⟨n8 + 1, [], rfl, by omega, by simp only [hn_push, hn_up]; omega, by simp -dsimp -implicitDefEqProofs only [go_sem, hoo], .nil, by simp⟩, fun c h1 h2 => ?_⟩
  simp only [blockOf, Option.some.injEq] at h1 h2
  omega
 rintro mm e h' hks ⟨j, v4, v5, onL, nn, mtL, row, ej, e4, e5, hm, r4, r5, hd45⟩
 simp -dsimp -implicitDefEqProofs only [go_sem, sQ1] at hks
 have c4 := r4.cell
 have c5 := r5.cell
 have lk : (headsL (turnM m k (applyI (m.layers.getD i default).k (normI x (m.layers.getD i default).gain1))) (sizeH m) m.heads.toNat).length = m.heads.toNat := headsL_len
 have lv : (headsL (applyI (m.layers.getD i default).v (normI x (m.layers.getD i default).gain1)) (sizeH m) m.heads.toNat).length = m.heads.toNat := headsL_len
 by_cases q1 : (j : Int) < m.heads
 ·have q2 : j < m.heads.toNat := by omega
  have w1 := zwrs j (by omega)
  obtain ⟨hk1, hk2⟩ := head_t htv ht q2
  obtain ⟨hv1, hv2⟩ := head_t hvv ht q2
  have hatk := headsL_at (x := turnM m k (applyI (m.layers.getD i default).k (normI x (m.layers.getD i default).gain1))) (s := sizeH m) q2
  have hatv := headsL_at (x := applyI (m.layers.getD i default).v (normI x (m.layers.getD i default).gain1)) (s := sizeH m) q2
  repeat (first | rw [ko] | rw [kr] | simp -dsimp -implicitDefEqProofs only [go_sem, sQ1, hks, ej, e4, e5, q1, q2, row, lk, hatk])
  refine pw_intro (cutDownB_ok hk2 (by omega) (by omega)) ?_
  rintro _ na hna ⟨⟨Fa, rfl⟩, alla⟩
  repeat (first | rw [ko] | rw [kr] | simp -dsimp -implicitDefEqProofs only [go_sem, sQ1, sQ2, q2, lv, hatv, hoo])
  refine pw_intro (cutDownB_ok hv2 (by omega) (by omega)) ?_
  rintro _ nb hnb ⟨⟨Fb, rfl⟩, allb⟩
  simp only [hn_up, hn_push, hn_set] at hnb alla allb
  have eab : (na == nb) = false := zne
  have eab2 : (nb == na) = false := zne
  repeat (first | rw [ko] | rw [kr] | simp -dsimp -implicitDefEqProofs only [go_sem, sQ1, sQ2, sQ3, sQ4, hoo, eab])
  have leS : h'.le _ := le_set (b := nb) (k := ⟨2, xPart Fb (cutI (headI (applyI (m.layers.getD i default).v (normI x (m.layers.getD i default).gain1)) (sizeH m) j))⟩) (le_push (k := ⟨2, [.raw (.int .i64 0), .raw (.slice none 0 0)]⟩) (le_up (n := nb) (le_set (b := na) (k := ⟨2, xPart Fa (cutI (headI (turnM m k (applyI (m.layers.getD i default).k (normI x (m.layers.getD i default).gain1))) (sizeH m) j))⟩) (le_push (k := ⟨2, [.raw (.int .i64 0), .raw (.slice none 0 0)]⟩) (le_up (H2.le.refl h') hna)) hna) (by simp only [hn_set, hn_push, hn_up]; omega))) (by omega)
  have pa := partAll alla
  have pb := partAll allb
  refine appB (P := Tryz.prog) (N := hn g .mk + 2) (a := cutI (headI (turnM m k (applyI (m.layers.getD i default).k (normI x (m.layers.getD i default).gain1))) (sizeH m) j)) eleP Go.Ai.ty_el156 Go.Ai.ty_zr196 rfl Go.Ai.ty_cl156 (by omega) (r4.keep leS.1 fun c hc => leS.2 c (r4.lt c hc).2) (by simp only [hn_set, hn_push, hn_up]; omega) (by rw [List.length_take]; omega) (lit_all (n := 1) (z := 2) (ts := ePart (cutI (headI (turnM m k (applyI (m.layers.getD i default).k (normI x (m.layers.getD i default).gain1))) (sizeH m) j))) rfl rfl (by omega) (fun x hx => by
   simp only [List.mem_cons, List.not_mem_nil, or_false] at hx
   rcases hx with rfl | rfl
   ·exact .inl ⟨_, rfl⟩
   ·exact .inr ⟨_, _, _, rfl, pa.imp fun c hc => by omega⟩)) ?_
  intro v6 g6 r6 bo6 n6 fr6
  simp only [hn_set, hn_push, hn_up] at bo6 n6 fr6
  have row6 : hg g6 nb .mk = _ := (fr6 nb (by omega) (fun e => by have := (r4.lt _ e).2; omega)).trans (by simp -dsimp -implicitDefEqProofs only [go_sem, hoo] <;> rfl)
  have r56 := r5.keep (g' := g6) (by omega) fun c hc => (fr6 c (by have := (r5.lt c hc).2; omega) (fun e => hd45 c e hc)).trans (leS.2 c (r5.lt c hc).2)
  have c6 := r6.cell
  repeat (first | rw [ko] | rw [kr] | simp -dsimp -implicitDefEqProofs only [go_sem, sQ1, sQ2, sQ3, sQ4, row6])
  refine appB (P := Tryz.prog) (N := hn g .mk + 2) (a := cutI (headI (applyI (m.layers.getD i default).v (normI x (m.layers.getD i default).gain1)) (sizeH m) j)) eleP Go.Ai.ty_el156 Go.Ai.ty_zr196 rfl Go.Ai.ty_cl156 (by omega) r56 (by omega) (by rw [List.length_take]; omega) (lit_all (n := 1) (z := 2) (ts := ePart (cutI (headI (applyI (m.layers.getD i default).v (normI x (m.layers.getD i default).gain1)) (sizeH m) j))) rfl rfl (by omega) (fun x hx => by
   simp only [List.mem_cons, List.not_mem_nil, or_false] at hx
   rcases hx with rfl | rfl
   ·exact .inl ⟨_, rfl⟩
   ·exact .inr ⟨_, _, _, rfl, pb.imp fun c hc => by omega⟩)) ?_
  intro v7 g7 r7 bo7 n7 fr7
  have r67 := r6.keep (g' := g7) (by omega) fun c hc => fr7 c (by have := (r6.lt c hc).2; omega) (fun e => by
   rw [bo6] at hc
   cases hc
   have := (r5.lt _ e).2
   omega)
  have on7 : ∀ c, c < hn g .mk + 2 → hg g7 c .mk = hg h' c .mk := fun c hc => (fr7 c (by omega) (fun e => by have := (r5.lt c e).1; omega)).trans ((fr6 c (by omega) (fun e => by have := (r4.lt c e).1; omega)).trans (leS.2 c (by omega)))
  have c7 := r7.cell
  have ek : (keysI m (m.layers.getD i default) k x).take (j + 1) = (keysI m (m.layers.getD i default) k x).take j ++ [cutI (headI (turnM m k (applyI (m.layers.getD i default).k (normI x (m.layers.getD i default).gain1))) (sizeH m) j)] := mapR_snoc q2
  have ev : (valsI m (m.layers.getD i default) x).take (j + 1) = (valsI m (m.layers.getD i default) x).take j ++ [cutI (headI (applyI (m.layers.getD i default).v (normI x (m.layers.getD i default).gain1)) (sizeH m) j)] := mapR_snoc q2
  rw [← ek] at r67
  rw [← ev] at r7
  repeat (first | rw [ko] | rw [kr] | simp -dsimp -implicitDefEqProofs only [go_sem, sQ1, w1])
  exact nx_keep (mm - 1) (by omega) zsm ⟨j + 1, v6, v7, OnM.below onL (by omega) (by omega) on7, by omega, Mt.below mtL hNp (by omega) on7, (on7 _ (by omega)).trans row, zsm, zsm, zsm, by omega, r67, r7, fun c h1 h2 => by rw [bo6, Option.some.injEq] at h1; rw [bo7, Option.some.injEq] at h2; omega⟩
 ·repeat (first | rw [ko] | rw [kr] | simp -dsimp -implicitDefEqProofs only [go_sem, sQ1, hks, ej, e4, e5, q1, row, c4, c5])
  have hj : j = (keysI m (m.layers.getD i default) k x).length := by omega
  have hj2 : j = (valsI m (m.layers.getD i default) x).length := by omega
  rw [hj, List.take_length] at r4
  rw [hj2, List.take_length] at r5
  obtain ⟨fa, hfa⟩ := r4.fz eleP (p := fun c => hn g .mk ≤ c) (fun c hc => by omega)
  obtain ⟨fb, hfb⟩ := r5.fz eleP (p := fun c => hn g .mk ≤ c) (fun c hc => by omega)
  exact ⟨onL, mtL, _, fz3 (hfa.imp (fun _ h => h) fun c hc => by omega) (hfb.imp (fun _ h => h) fun c hc => by omega) .raw, fa, fb, rfl⟩
end Go.Bi
end
section
set_option maxRecDepth 20000
namespace Go.Bi
open Go.Proofs
open Go.Ai (wrap_i64 Heap)
variable {W0 : World} {P : Program}
set_option maxHeartbeats 8000000
theorem VecM.rng {m : LModel} {b : Int} {x : List Int} (h : VecM m b x) (ht : ModT m) : (4 ≤ x.length ∧ x.length ≤ 8) ∧ (x.length : Int) = m.dim := by
 have := h.len ht
 omega
theorem nil_all {q : Nat → Prop} : AllB q (.tp []) := .tp fun x hx => by cases hx
theorem stepB_ok {F : Nat → Adr} {m : LModel} {b : Nat} {r s : Int} {f f2 f3 : Adr} {x : List Int} {ks vs : List (List LPart)} {i k : Nat} {g : H2} (mt : Mt (some b) g r s) (ht : ModT m) (hi : i < m.layers.length) (hk : (k : Int) < m.context) (hx : VecM m 1000 x) (hks0 : PartsM m ks) (hvs : PartsM m vs) (hlk : vs.length = ks.length) (hk1 : 1 ≤ ks.length) (hk32 : ks.length ≤ 32) :
  MI Tryz.prog W0 109 [.st (xModel F m), .raw (.int .i64 i), .raw (.int .i64 k), .sl f 1 (ints x), .sl f2 1 (rPartSS ks), .sl f3 1 (rPartSS vs), .raw (.pointer (some ⟨b, 0, none⟩))] g (some b) (stepR m (m.layers.getD i default) k x ks vs r) (stepS m (m.layers.getD i default) k x ks s) (stepI m (m.layers.getD i default) k x ks vs) := by
 have hlay := ht.lay i hi
 obtain ⟨y1, y2, y3, y4, y5, y6, y7, y8, y9⟩ := lay_t hlay
 have y3 : 4 ≤ (m.layers.getD i default).up.rows.length ∧ (m.layers.getD i default).up.rows.length ≤ 8 := by omega
 have hg1 := gain_t y1
 have hg2 := gain_t y2
 have hl := hx.rng ht
 have hh : VecM m 127 (normI x (m.layers.getD i default).gain1) := hx.norm
 have hhl := hh.rng ht
 have hqm := with_t y4
 have hom := with_t y7
 have hum := with_t y8
 have hdm := with_t y9
 have ht2 := turns_t ht.turns
 obtain ⟨s1, s2, s3, s4, s5, s6, s7⟩ := size_t ht
 have hnat := heads_nat ht
 have hpl := ht2.2.2.2.2 k hk
 rw [s4] at hpl
 have hqv : VecM m 127 (applyI (m.layers.getD i default).q (normI x (m.layers.getD i default).gain1)) := VecM.app y4 ht
 have hql := hqv.rng ht
 obtain ⟨q, hqe⟩ : ∃ q, turnM m k (applyI (m.layers.getD i default).q (normI x (m.layers.getD i default).gain1)) = q := ⟨_, rfl⟩
 have hq : VecM m 127 q := by rw [← hqe]; exact VecM.turn hqv
 have hqq := hq.rng ht
 have hz : (m.heads == 0) = false := by rw [beq_eq_false_iff_ne]; have := ht.heads; omega
 have wsz := wrapS (x := (sizeH m : Int)) (by omega)
 have hNp : ∀ c, (some b : Option Nat) = some c → c < hn g .mk + 2 := fun c e => by have := (mt c e).1; omega
 have q0 : (some b : Option Nat) ≠ some (hn g .mk) := fun e => by have := (mt _ e).1; omega
 have q0' : (some b : Option Nat) ≠ some (hn g .mk + 1) := fun e => by have := (mt _ e).1; omega
 refine begins [[0, 1, 2, 3, 4, 5, 6], [1, 2, 3, 4, 5, 6, 7], [2, 3, 4, 5, 6, 7, 16], [2, 3, 4, 5, 6, 7, 16, 17, 18], [], [2, 3, 4, 5, 6, 7, 16, 17], [2, 3, 4, 5, 6, 7, 16, 17], [2, 3, 4, 5, 6, 7, 16, 19], [3, 4, 5, 6, 7, 16, 19], [3, 4, 5, 6, 7, 16, 21], [3, 4, 5, 6, 7, 16, 21, 23], [3, 4, 5, 6, 7, 16, 21, 23, 24], [3, 4, 5, 6, 7, 16, 21, 23, 24], [3, 4, 5, 6, 7, 16, 21, 23, 24], [3, 4, 5, 6, 7, 16, 21, 23, 24, 25], [3, 4, 5, 6, 7, 16, 21, 23, 24, 25, 26], [3, 4, 5, 6, 7, 16, 21, 23, 24, 25, 26], [3, 4, 5, 6, 7, 16, 21, 23, 24, 25, 26], [3, 4, 5, 6, 7, 16, 21, 23, 24, 25, 26, 27], [3, 4, 5, 6, 7, 16, 21, 23, 24, 25, 26, 27], [3, 4, 5, 6, 7, 16, 21, 23, 24, 25], [3, 4, 5, 6, 7, 16, 21, 23, 24, 29], [3, 6, 16, 23], [3, 6, 16, 23], [3, 6, 16, 31], [3, 6, 16], [3, 6, 16, 17], [3, 6, 16, 17], [3, 6, 16, 33], [3, 6, 16, 33, 35], [3, 6, 16, 33, 35], [3, 6, 16, 33, 35], [3, 6, 16, 33], [3, 16, 33], [3, 36]] Tryz.func109 rfl (rs := [.tmp 14, .tmp 15]) rfl rfl ?_
 intro wf
 have hne : (hn g .mk == hn g .mk + 1) = false := by simp
 have p1 := mt.ne (c := hn g .mk) (Nat.le_refl _)
 have p2 := mt.ne (c := hn g .mk + 1) (by omega)
 repeat (first | rw [ko] | rw [kr] | simp -dsimp -implicitDefEqProofs only [go_sem, sQ1, sQ2, sQ3, hoo, hi])
 refine pw_intro (TI.pw (normB_ok hx.2 (by omega) (by omega) (by omega) hg1.2.1)) ?_
 rintro _ n1 hn1 ⟨⟨f4, rfl⟩, _⟩
 simp only [hn_push, hn_set] at hn1
 repeat (first | rw [ko] | rw [kr] | simp -dsimp -implicitDefEqProofs only [go_sem, sQ1, hoo])
 refine pm_call (by exact Mt.up (Mt.put (mt.push.push) p2) (by simp only [hn_push, hn_set]; omega)) (fun mt1 => sumsB_ok (F := fun j => under (under (F 5) i) (j + 1)) mt1 hqm.1 (by omega) hh.2) ?_
 rintro _ n2 hn2 mt2 on2 rfl
 simp only [hn_up] at hn2
 repeat (first | rw [ko] | rw [kr] | simp -dsimp -implicitDefEqProofs only [go_sem, sQ1, hoo, hg_gM p2])
 refine pw_intro (TI.pw (applyB_ok (F := fun j => under (under (F 5) i) (j + 1)) hqm.1 (by omega) hh.2)) ?_
 rintro _ n3 hn3 ⟨⟨f5, rfl⟩, _⟩
 simp only [hn_up] at hn3
 repeat (first | rw [ko] | rw [kr] | simp -dsimp -implicitDefEqProofs only [go_sem, sQ1, hoo])
 refine dq_intro [(0, []), (1, []), (2, []), (3, []), (4, []), (5, []), (6, []), (7, []), (8, []), (9, []), (10, []), (11, []), (12, []), (13, [])] (by kernel_rfl) ?_
 repeat (first | rw [ko] | rw [kr] | simp -dsimp -implicitDefEqProofs only [go_sem, sQ1, hoo, hne, hg_gM p1, hz, s3, wsz])
 refine pw_intro (TI.pw (turnAllB_ok (F := fun j => F (j + 12)) (t := m.turns) (hd := sizeH m) s1 (by have := hqv.1; rw [this, ← s2, Nat.mul_mod_left]) (by omega) hqv.2 (by omega) (by omega) (by omega) (by omega) (by omega) hpl.1.2 hpl.2.2)) ?_
 rintro y n4 hn4 ⟨⟨f6, hy⟩, _⟩
 obtain rfl : y = .tp [.sl f6 1 (ints q), .raw (.bool true)] := by rw [← hqe]; exact hy
 simp only [hn_up] at hn4
 try (rw [kq]; refine ⟨zsm, ?_⟩)
 repeat (first | rw [ko] | rw [kr] | simp -dsimp -implicitDefEqProofs only [go_sem, sQ1, hoo, hne, hg_gM p1])
 refine pw_intro (headsB_i hnat (n := m.heads.toNat) (size := sizeH m) (by omega) (by omega) (by rw [hq.1, s2]) (by omega)) ?_
 rintro _ n5 hn5 ⟨f7, rfl⟩
 simp only [hn_up] at hn5
 have e8 : (hn g .mk == n5) = false := zne
 have e9 : (hn g .mk + 1 == n5) = false := zne
 have lq : (headsL q (sizeH m) m.heads.toNat).length = m.heads.toNat := headsL_len
 repeat (first | rw [ko] | rw [kr] | simp -dsimp -implicitDefEqProofs only [go_sem, sQ1, sQ3, hoo])
 refine lz_keep [3, 4, 5, 6, 7, 16, 21] (fun mm e h' => ∃ (j : Nat) (v : X), OnM (some b) g h' ∧ hn g .mk + 2 ≤ hn h' .mk ∧ Mt (some b) h' (greatI r (wideI (m.layers.getD i default).q (normI x (m.layers.getD i default).gain1))) (attS m q ks s j) ∧ hg h' (hn g .mk) .mk = some ⟨14, [.raw (.int .i64 m.dim), .raw (.int .i64 m.heads), .raw (.int .i64 m.context), .sl (F 3) 2 (rMergeS m.merges), .sl (F 4) 1 (rIntSS m.embed), .sl (F 5) 32 (rLayerS m.layers), .sl (F 6) 1 (ints m.gainEnd), .raw (.int .i64 m.head.width), .sl (F 8) 1 (rIntSS m.head.rows), .sl (F 9) 1 (rIntSS m.head.scales), .raw (.int .i64 m.head.mul), .raw (.int .i64 m.head.shift), .sl (F 12) 1 (rIntSS m.turns.cos), .sl (F 13) 1 (rIntSS m.turns.sin)]⟩ ∧ hg h' (hn g .mk + 1) .mk = some ⟨32, xLayer (fun j => under (under (F 5) i) j) (m.layers.getD i default)⟩ ∧ look e 24 .mk = .raw (.int .i64 (j : Nat)) ∧ look e 23 .mk = v ∧ mm + j = m.heads.toNat ∧ OwnI (hn g .mk + 2) h' v (allP m q ks vs j)) m.heads.toNat ?_ ?_
 ·refine ⟨0, _, OnM.push (OnM.up (OnM.up (OnM.up (OnM.trans (OnM.up (OnM.put (OnM.push (OnM.push OnM.refl)) (by omega)) (by simp only [hn_push, hn_set]; omega)) on2) (by simp only [hn_up]; omega)) (by simp only [hn_up]; omega)) (by simp only [hn_up]; omega)), by simp only [hn_push, hn_up]; omega, Mt.push (Mt.up (Mt.up (Mt.up mt2 (by simp only [hn_up]; omega)) (by simp only [hn_up]; omega)) (by simp only [hn_up]; omega)), by simp -dsimp -implicitDefEqProofs only [go_sem, hoo, hne, e8, hg_gM p1], by simp -dsimp -implicitDefEqProofs only [go_sem, hoo, e9, hg_gM p2] <;> rfl, zsm, by simp -dsimp -implicitDefEqProofs only [go_sem] <;> rfl, by omega, Own.new (by simp only [hn_up]; omega) rfl⟩
 rintro mm e h' hks ⟨j, v, onL, nn, mtL, r1, r2, ej, ev, hm, ow⟩
 simp -dsimp -implicitDefEqProofs only [go_sem, sQ1] at hks
 have hv := ownI_cell ow
 by_cases q1 : (j : Int) < m.heads
 ·have q2 : j < m.heads.toNat := by omega
  have w1 := zwrs j (by omega)
  obtain ⟨hh1, hh2⟩ := head_t hq ht q2
  have hat := headsL_at (x := q) (s := sizeH m) q2
  have hpl2 := allP_len (ks := ks) (vs := vs) ht hq (Nat.le_of_lt q2)
  have hok := ofHead_t ht hks0 q2
  have hov := ofHead_t ht hvs q2
  have hj8 : j * sizeH m ≤ 16 := by
   have := Nat.mul_le_mul (show j ≤ 2 by omega) (show sizeH m ≤ 8 by omega)
   omega
  repeat (first | rw [ko] | rw [kr] | simp -dsimp -implicitDefEqProofs only [go_sem, sQ1, hks, ej, ev, q1, r1])
  refine pw_intro (ofHeadB_ok (ks := ks) (partsAt ht hks0 q2) (by omega)) ?_
  rintro _ n6 hn6 ⟨f8, rfl⟩
  repeat (first | rw [ko] | rw [kr] | simp -dsimp -implicitDefEqProofs only [go_sem, sQ1])
  refine lz_keep [3, 4, 5, 6, 7, 16, 21, 23, 24, 25] (fun m2 e2 h2 => ∃ (l : Nat), OnM (some b) h' h2 ∧ Mt (some b) h2 (greatI r (wideI (m.layers.getD i default).q (normI x (m.layers.getD i default).gain1))) (greatI (attS m q ks s j) (((ofHeadI ks j).map (scoreI (headI q (sizeH m) j))).take l)) ∧ look e2 26 .mk = .raw (.int .i64 (l : Nat)) ∧ m2 + l = ks.length) ks.length ?_ ?_
  ·exact ⟨0, OnM.up OnM.refl hn6, Mt.up mtL hn6, zsm, by omega⟩
  rintro m2 e2 h2 hks2 ⟨l, on2', mt2', el, hm2⟩
  simp -dsimp -implicitDefEqProofs only [go_sem, sQ1] at hks2
  have hok1 := hok.1
  by_cases p1' : (l : Int) < (ks.length : Int)
  ·have p2' : l < ks.length := by omega
   have p3 : l < (ofHeadI ks j).length := by omega
   have p4 : l < ((ofHeadI ks j).map (scoreI (headI q (sizeH m) j))).length := by rw [List.length_map]; exact p3
   have w2 := zwrs l (by omega)
   have hkl := rows_of ht hks0 q2 _ (getD_mem p3)
   have sc := score_abs hh2 hkl.2 (by omega)
   have eg := great_succ (n := attS m q ks s j) p4
   have esc : ((ofHeadI ks j).map (scoreI (headI q (sizeH m) j))).getD l default = scoreI (headI q (sizeH m) j) ((ofHeadI ks j).getD l default) := by
    rw [List.getD_eq_getElem?_getD, List.getElem?_map, List.getElem?_eq_getElem p3, List.getD_eq_getElem?_getD, List.getElem?_eq_getElem p3]
    rfl
   rw [esc] at eg
   obtain ⟨hb, mrow⟩ := mt2' b rfl
   unfold metO at mrow
   repeat (first | rw [ko] | rw [kr] | simp -dsimp -implicitDefEqProofs only [go_sem, sQ1, hks2, el, p1', hok1])
   refine dq_intro [(0, []), (1, []), (2, []), (3, []), (4, []), (5, []), (6, []), (7, []), (8, []), (9, []), (10, []), (11, []), (12, []), (13, [])] (by kernel_rfl) ?_
   repeat (first | rw [ko] | rw [kr] | simp -dsimp -implicitDefEqProofs only [go_sem, sQ1, p2', q2, lq, hat, hok1])
   refine pw_intro (scoreB_ok (q := headI q (sizeH m) j) hh2 hkl.2 (by omega) (by omega) (by omega)) ?_
   rintro _ n7 hn7 rfl
   repeat (first | rw [ko] | rw [kr] | simp -dsimp -implicitDefEqProofs only [go_sem, sQ1])
   refine dq_intro [(0, []), (2, []), (3, []), (4, []), (5, []), (1, [5]), (6, [])] (by kernel_rfl) ?_
   repeat (first | rw [ko] | rw [kr] | simp -dsimp -implicitDefEqProofs only [go_sem, sQ1, mrow])
   refine wz_intro (absB1_ok (by omega)) ?_
   rintro _ _ ⟨rfl, rfl⟩
   by_cases q4 : max (scoreI (headI q (sizeH m) j) ((ofHeadI ks j).getD l default)) (-scoreI (headI q (sizeH m) j) ((ofHeadI ks j).getD l default)) > greatI (attS m q ks s j) (((ofHeadI ks j).map (scoreI (headI q (sizeH m) j))).take l)
   ·have e5 : greatI (attS m q ks s j) (((ofHeadI ks j).map (scoreI (headI q (sizeH m) j))).take (l + 1)) = max (scoreI (headI q (sizeH m) j) ((ofHeadI ks j).getD l default)) (-scoreI (headI q (sizeH m) j) ((ofHeadI ks j).getD l default)) := by rw [eg]; omega
    repeat (first | rw [ko] | rw [kr] | simp -dsimp -implicitDefEqProofs only [go_sem, sQ1, mrow, q4])
    refine wz_intro (absB1_ok (by omega)) ?_
    rintro _ _ ⟨rfl, rfl⟩
    repeat (first | rw [ko] | rw [kr] | simp -dsimp -implicitDefEqProofs only [go_sem, sQ1, mrow, w2])
    exact nx_keep (m2 - 1) (by omega) zsm ⟨l + 1, OnM.setb (OnM.up on2' hn7), by rw [e5]; exact Mt.setb (by rw [hn_up]; omega), zsm, by omega⟩
   ·have e5 : greatI (attS m q ks s j) (((ofHeadI ks j).map (scoreI (headI q (sizeH m) j))).take (l + 1)) = greatI (attS m q ks s j) (((ofHeadI ks j).map (scoreI (headI q (sizeH m) j))).take l) := by rw [eg]; omega
    repeat (first | rw [ko] | rw [kr] | simp -dsimp -implicitDefEqProofs only [go_sem, sQ1, mrow, q4, w2])
    exact nx_keep (m2 - 1) (by omega) zsm ⟨l + 1, OnM.up on2' hn7, by rw [e5]; exact Mt.up mt2' hn7, zsm, by omega⟩
  have hl2 : l = ((ofHeadI ks j).map (scoreI (headI q (sizeH m) j))).length := by rw [List.length_map]; omega
  rw [hl2, List.take_length] at mt2'
  repeat (first | rw [ko] | rw [kr] | simp -dsimp -implicitDefEqProofs only [go_sem, sQ1, hks2, el, p1', hok1])
  refine dq_intro [(0, []), (1, []), (2, []), (3, []), (4, []), (5, []), (6, []), (7, [3]), (8, []), (9, []), (10, []), (11, []), (12, []), (13, [])] (by kernel_rfl) ?_
  repeat (first | rw [ko] | rw [kr] | simp -dsimp -implicitDefEqProofs only [go_sem, sQ1, q2, lq, hat])
  refine pw_intro (ofHeadB_ok (ks := vs) (partsAt ht hvs q2) (by omega)) ?_
  rintro _ n8 hn8 ⟨f9, rfl⟩
  try (rw [kq]; refine ⟨zsm, ?_⟩)
  repeat (first | rw [ko] | rw [kr] | simp -dsimp -implicitDefEqProofs only [go_sem])
  refine pw_intro (TI.pw (attendB_ok (q := headI q (sizeH m) j) (ks := ofHeadI ks j) (vs := ofHeadI vs j) hh2 (by omega) (by omega) (by rw [hh1]; exact rows_of ht hks0 q2) (by rw [hh1]; exact rows_of ht hvs q2) (by omega) (by omega) (by omega))) ?_
  rintro _ n9 hn9 ⟨⟨f10, rfl⟩, _⟩
  try (rw [kq]; refine ⟨zsm, ?_⟩)
  repeat (first | rw [ko] | rw [kr] | simp -dsimp -implicitDefEqProofs only [go_sem, sQ1])
  simp only [hn_up] at hn9
  have onS : OnM (some b) h' _ := OnM.up (OnM.up on2' hn8) (by simp only [hn_up]; omega)
  have owS := Own.on ow onS mtL hNp
  have nl2 := on2'.1
  refine appI (P := Tryz.prog) Go.Ai.ty_el25 Go.Ai.ty_zr3 Go.Ai.ty_cl25 (by omega) owS (by simp only [hn_up]; omega) (by rw [hpl2, attend_len, hh1]; omega) ?_
  intro v4 g4 ow4 nn4 on4
  rw [← allP_succ] at ow4
  have r14 : hg g4 (hn g .mk) .mk = _ := (on4 (hn g .mk) (by omega)).trans ((onS.2 (hn g .mk) (by omega) q0).trans r1)
  have r24 : hg g4 (hn g .mk + 1) .mk = _ := (on4 (hn g .mk + 1) (by omega)).trans ((onS.2 (hn g .mk + 1) (by omega) q0').trans r2)
  repeat (first | rw [ko] | rw [kr] | simp -dsimp -implicitDefEqProofs only [go_sem, sQ1, w1])
  exact nx_keep (mm - 1) (by omega) zsm ⟨j + 1, v4, OnM.below (onL.trans onS) (by omega) nn4 on4, nn4, Mt.below (Mt.up (Mt.up mt2' hn8) (by simp only [hn_up]; omega)) hNp nn4 on4, r14, r24, zsm, zsm, by omega, ow4⟩
 obtain rfl : j = m.heads.toNat := by omega
 clear hhl hql hqq s1
 obtain ⟨A, hAe⟩ : ∃ A, allHI m q ks vs = A := ⟨_, rfl⟩
 have hall : VecM m 127 A := by rw [← hAe]; exact all_ok ht hq
 have ow : OwnI (hn g .mk + 2) h' v A := by rw [← hAe]; exact ow
 have hal := hall.rng ht
 obtain ⟨O, hOe⟩ : ∃ O, applyI (m.layers.getD i default).o A = O := ⟨_, rfl⟩
 have hoI : VecM m 127 O := by rw [← hOe]; exact VecM.app y7 ht
 have hol := hoI.rng ht
 obtain ⟨M, hMe⟩ : ∃ M, addI x O = M := ⟨_, rfl⟩
 have hmid : VecM m 500 M := by rw [← hMe]; exact ⟨by rw [addI_len]; exact hx.1, addI_abs⟩
 have hml := hmid.rng ht
 obtain ⟨N2, hNe⟩ : ∃ N2, normI M (m.layers.getD i default).gain2 = N2 := ⟨_, rfl⟩
 have hn2v : VecM m 127 N2 := by rw [← hNe]; exact hmid.norm
 have hn2l := hn2v.rng ht
 obtain ⟨U, hUe⟩ : ∃ U, applyI (m.layers.getD i default).up N2 = U := ⟨_, rfl⟩
 have hul : U.length = (m.layers.getD i default).up.rows.length := by rw [← hUe]; exact applyI_len
 have hua : absB 127 U := by rw [← hUe]; exact applyI_abs
 obtain ⟨D, hDe⟩ : ∃ D, applyI (m.layers.getD i default).down (U.map bendI) = D := ⟨_, rfl⟩
 have hdI : VecM m 127 D := by rw [← hDe]; exact VecM.app y9 ht
 have hdl := hdI.rng ht
 obtain ⟨fz, hfz⟩ := OwnI.fz (p := fun c => (some b : Option Nat) ≠ some c) (q := fun _ => True) ow (fun c hc e => by have := hNp c e; omega)
 repeat (first | rw [ko] | rw [kr] | simp -dsimp -implicitDefEqProofs only [go_sem, sQ1, hks, ej, ev, q1, r1, r2])
 refine pm_intro (PM.lend (.cons .raw (.cons (fz_st (xs := xMatrix (fun j => under (under (F 5) i) (j + 16)) (m.layers.getD i default).o) rfl) (.cons hfz .nil))) mtL (sumsB_ok (F := fun j => under (under (F 5) i) (j + 16)) mtL.bar hom.1 (by omega) hall.2) (fun y h => by rw [h]; exact nil_all)) ?_
 rintro _ na hna rfl
 have mta := Mt.up (n := na) (Mt.set (r' := greatI (greatI r (wideI (m.layers.getD i default).q (normI x (m.layers.getD i default).gain1))) (wideI (m.layers.getD i default).o A)) (s' := attS m q ks s m.heads.toNat) mtL) (by rw [hn_gM]; exact hna)
 have ona : OnM (some b) h' _ := OnM.up (n := na) (OnM.gM (r := greatI (greatI r (wideI (m.layers.getD i default).q (normI x (m.layers.getD i default).gain1))) (wideI (m.layers.getD i default).o A)) (s := attS m q ks s m.heads.toNat) OnM.refl) (by rw [hn_gM]; exact hna)
 have owa := Own.on ow ona mtL hNp
 obtain ⟨fz2, hfz2⟩ := OwnI.lent owa
 repeat (first | rw [ko] | rw [kr] | simp -dsimp -implicitDefEqProofs only [go_sem, sQ1, r2, hg_gM p2])
 refine pw_intro (PW.lend (.cons (fz_st (xs := xMatrix (fun j => under (under (F 5) i) (j + 16)) (m.layers.getD i default).o) rfl) (.cons hfz2 .nil)) (TI.pw (applyB_ok (F := fun j => under (under (F 5) i) (j + 16)) hom.1 (by omega) hall.2)) (fun y hy => hy.2)) ?_
 rintro y nb hnb ⟨⟨fb, hy⟩, _⟩
 obtain rfl : y = .tp [.sl fb 1 (ints O), .raw (.bool true)] := by rw [← hOe]; exact hy
 simp only [hn_up] at hnb
 repeat (first | rw [ko] | rw [kr] | simp -dsimp -implicitDefEqProofs only [go_sem, sQ1])
 refine pw_intro (TI.pw (addB_ok (x := x) (y := O) hx.2 (absB_mono hoI.2 (by omega)) (by omega) (by omega))) ?_
 rintro y nc hnc ⟨⟨fc, hy⟩, _⟩
 obtain rfl : y = .tp [.sl fc 1 (ints M), .raw (.bool true)] := by rw [← hMe]; exact hy
 simp only [hn_up] at hnc
 repeat (first | rw [ko] | rw [kr] | simp -dsimp -implicitDefEqProofs only [go_sem, sQ1, r2, hg_gM p2])
 refine pw_intro (TI.pw (normB_ok (x := M) (absB_mono hmid.2 (by omega)) (by omega) (by omega) (by omega) hg2.2.1)) ?_
 rintro y nd hnd ⟨⟨fd, hy⟩, _⟩
 obtain rfl : y = .tp [.sl fd 1 (ints N2), .raw (.bool true)] := by rw [← hNe]; exact hy
 simp only [hn_up] at hnd
 repeat (first | rw [ko] | rw [kr] | simp -dsimp -implicitDefEqProofs only [go_sem, sQ1, r2, hg_gM p2])
 refine pm_call (by exact Mt.up (Mt.up (Mt.up mta (by simp only [hn_up]; omega)) (by simp only [hn_up]; omega)) (by simp only [hn_up]; omega)) (fun mtb => sumsB_ok (F := fun j => under (under (F 5) i) (j + 22)) mtb hum.1 (by omega) hn2v.2) ?_
 rintro _ ne hne2 mte one rfl
 simp only [hn_up] at hne2
 repeat (first | rw [ko] | rw [kr] | simp -dsimp -implicitDefEqProofs only [go_sem, sQ1, r2, hg_gM p2])
 refine wz_intro (applyB_ok (F := fun j => under (under (F 5) i) (j + 22)) hum.1 (by omega) hn2v.2) ?_
 rintro _ g5 ⟨l5, v5, rfl, ow5⟩
 rw [hUe] at ow5
 have nn5 := l5.1
 simp only [hn_up] at nn5 ow5
 have r25 : hg g5 (hn g .mk + 1) .mk = some ⟨32, xLayer (fun j => under (under (F 5) i) j) (m.layers.getD i default)⟩ := (l5.2 _ (by simp only [hn_up]; omega)).trans (by simp -dsimp -implicitDefEqProofs only [go_sem, r2, hg_gM p2] <;> rfl)
 have mt5 := mte.le l5
 have on5 : OnM (some b) g g5 := OnM.le (OnM.trans (OnM.up (OnM.up (OnM.up (OnM.trans onL ona) (by simp only [hn_up]; omega)) (by simp only [hn_up]; omega)) (by simp only [hn_up]; omega)) one) l5
 obtain ⟨bb, rfl, hb1, hb2, hb3⟩ := ownI_inv ow5 (by omega)
 have hbe : (hn g .mk + 1 == bb) = false := zne
 have pbb : ((some b : Option Nat) == some bb) = false := by
  have := hNp b rfl
  simp; omega
 repeat (first | rw [ko] | rw [kr] | simp -dsimp -implicitDefEqProofs only [go_sem, sQ1, hul])
 refine lz_keep [3, 6, 16, 33] (fun m3 e3 h3 => ∃ (t : Nat), OnM (some b) g h3 ∧ bb < hn h3 .mk ∧ Mt (some b) h3 (greatI (greatI (greatI r (wideI (m.layers.getD i default).q (normI x (m.layers.getD i default).gain1))) (wideI (m.layers.getD i default).o A)) (wideI (m.layers.getD i default).up N2)) (attS m q ks s m.heads.toNat) ∧ hg h3 (hn g .mk + 1) .mk = some ⟨32, xLayer (fun j => under (under (F 5) i) j) (m.layers.getD i default)⟩ ∧ look e3 35 .mk = .raw (.int .i64 (t : Nat)) ∧ m3 + t = (m.layers.getD i default).up.rows.length ∧ hg h3 bb .mk = some ⟨1, (updI bendI U t).map cI⟩) (m.layers.getD i default).up.rows.length ?_ ?_
 ·exact ⟨0, on5, hb2, mt5, r25, zsm, by omega, hb3⟩
 rintro m3 e3 h3 hks3 ⟨t, on3', hbn, mt3', row3, et, hm3, rowb⟩
 simp -dsimp -implicitDefEqProofs only [go_sem, sQ1] at hks3
 by_cases q5 : (t : Int) < ((m.layers.getD i default).up.rows.length : Int)
 ·have q6 : t < (m.layers.getD i default).up.rows.length := by omega
  have q7 : t < U.length := by omega
  have q8 : t < (updI bendI U t).length := by rw [upd_len (by omega)]; exact q7
  have w1 := zwrs t (by omega)
  have hgt := getW q8
  rw [upd_at q7] at hgt
  have hxi := getD_abs (by omega) hua t
  have hwr := wrtW (v := bendI (U.getD t default)) q8
  rw [upd_set q7] at hwr
  have hi3 : (0 : Int) ≤ (t : Int) ∧ (t : Int) < ((m.layers.getD i default).up.rows.length : Int) := by omega
  repeat (first | rw [ko] | rw [kr] | simp -dsimp -implicitDefEqProofs only [go_sem, sQ1, hks3, et, q5, rowb, hgt, hi3, Int.toNat_natCast])
  refine wz_intro (bendB_ok hxi) ?_
  rintro _ _ ⟨rfl, rfl⟩
  repeat (first | rw [ko] | rw [kr] | simp -dsimp -implicitDefEqProofs only [go_sem, sQ1, q5, rowb, hwr, w1, hi3, Int.toNat_natCast])
  exact nx_keep (m3 - 1) (by omega) zsm ⟨t + 1, OnM.put on3' (by omega), hbn, mt3'.put pbb, by simp -dsimp -implicitDefEqProofs only [go_sem, hbe, row3], zsm, by omega, by simp -dsimp -implicitDefEqProofs only [go_sem, hoo]⟩
 have htl : t = U.length := by omega
 rw [htl, upd_all] at rowb
 have owu : OwnI bb h3 (.raw (.slice (some ⟨bb, 0, none⟩) U.length U.length)) (U.map bendI) := ownI_mk (by rw [List.length_map]) (Nat.le_refl _) hbn rowb
 rw [hul] at owu
 obtain ⟨fu, hfu⟩ := OwnI.fz (p := fun c => (some b : Option Nat) ≠ some c) (q := fun _ => True) owu (fun c hc e => by have := hNp c e; omega)
 have hbl : ((U.map bendI).length : Int) = ((m.layers.getD i default).up.rows.length : Int) := by rw [List.length_map]; omega
 repeat (first | rw [ko] | rw [kr] | simp -dsimp -implicitDefEqProofs only [go_sem, sQ1, hks3, et, q5, row3])
 refine pm_intro (PM.lend (.cons .raw (.cons (fz_st (xs := xMatrix (fun j => under (under (F 5) i) (j + 27)) (m.layers.getD i default).down) rfl) (.cons hfu .nil))) mt3' (sumsB_ok (F := fun j => under (under (F 5) i) (j + 27)) mt3'.bar hdm.1 (by omega) (bent_abs hua)) (fun y h => by rw [h]; exact nil_all)) ?_
 rintro _ nf hnf rfl
 have onf : OnM (some b) h3 _ := OnM.up (n := nf) (OnM.gM (r := stepR m (m.layers.getD i default) k x ks vs r) (s := attS m q ks s m.heads.toNat) OnM.refl) (by rw [hn_gM]; exact hnf)
 have eR : stepR m (m.layers.getD i default) k x ks vs r = greatI (greatI (greatI (greatI r (wideI (m.layers.getD i default).q (normI x (m.layers.getD i default).gain1))) (wideI (m.layers.getD i default).o A)) (wideI (m.layers.getD i default).up N2)) (wideI (m.layers.getD i default).down (U.map bendI)) := by
  unfold stepR bentR midI
  rw [hqe, hAe, hOe, hMe, hNe, hUe]
 have eS : stepS m (m.layers.getD i default) k x ks s = attS m q ks s m.heads.toNat := by unfold stepS; rw [hqe]
 have eI : stepI m (m.layers.getD i default) k x ks vs = addI M D := by
  unfold stepI midI
  rw [hqe, hAe, hOe, hMe, hNe, hUe, hDe]
 rw [eR] at onf
 have mtf := Mt.up (n := nf) (Mt.set (r' := greatI (greatI (greatI (greatI r (wideI (m.layers.getD i default).q (normI x (m.layers.getD i default).gain1))) (wideI (m.layers.getD i default).o A)) (wideI (m.layers.getD i default).up N2)) (wideI (m.layers.getD i default).down (U.map bendI))) (s' := attS m q ks s m.heads.toNat) mt3') (by rw [hn_gM]; exact hnf)
 have owf := Own.on owu onf mt3' (fun c e => by have := hNp c e; omega)
 obtain ⟨fu2, hfu2⟩ := OwnI.lent owf
 repeat (first | rw [ko] | rw [kr] | simp -dsimp -implicitDefEqProofs only [go_sem, sQ1, row3, hg_gM p2])
 refine pw_intro (PW.lend (.cons (fz_st (xs := xMatrix (fun j => under (under (F 5) i) (j + 27)) (m.layers.getD i default).down) rfl) (.cons hfu2 .nil)) (TI.pw (applyB_ok (F := fun j => under (under (F 5) i) (j + 27)) hdm.1 (by omega) (bent_abs hua))) (fun y hy => hy.2)) ?_
 rintro y ng hng ⟨⟨fg, hy⟩, _⟩
 obtain rfl : y = .tp [.sl fg 1 (ints D), .raw (.bool true)] := by rw [← hDe]; exact hy
 simp only [hn_up] at hng
 repeat (first | rw [ko] | rw [kr] | simp -dsimp -implicitDefEqProofs only [go_sem, sQ1])
 refine wz_intro (addB_ok (x := M) (y := D) (absB_mono hmid.2 (by omega)) (absB_mono hdI.2 (by omega)) (by omega) (by omega)) ?_
 rintro _ g7 ⟨l7, v7, rfl, ow7⟩
 have c7 := ownI_cell ow7
 have nn3 := on3'.1
 simp only [hn_up] at ow7
 repeat (first | rw [ko] | rw [kr] | simp -dsimp -implicitDefEqProofs only [go_sem, sQ1, c7])
 rw [eR, eS, eI]
 exact ⟨OnM.le (OnM.up (OnM.trans on3' onf) (by simp only [hn_up]; omega)) l7, Mt.le (Mt.up mtf (by simp only [hn_up]; omega)) l7, v7, rfl, ow7.wide (by omega)⟩
end Go.Bi
end
section
set_option maxRecDepth 20000
namespace Go.Bi
open Go.Proofs
open Go.Ai (wrap_i64 Heap)
variable {W0 : World} {P : Program}
set_option maxHeartbeats 8000000
def XI (N M : Nat) (g : H2) (x : X) (zs : List Int) : Prop := (∃ f, x = .sl f 1 (ints zs)) ∨ (OwnI N g x zs ∧ ∀ c, blockOf x = some c → c < M)
theorem XI.cell {N M : Nat} {g : H2} {x : X} {zs : List Int} (h : XI N M g x zs) : cellsX x = some [x] ∧ okX x = true ∧ isTpX x = false := by
 rcases h with ⟨f, rfl⟩ | ⟨o, _⟩
 ·exact ⟨rfl, rfl, rfl⟩
 ·exact ownI_cell o
theorem XI.fz {N M : Nat} {g : H2} {x : X} {zs : List Int} {p : Nat → Prop} (h : XI N M g x zs) (hp : ∀ b, N ≤ b → p b) : ∃ f, Fz p (fun _ => True) g x (.sl f 1 (ints zs)) := by
 rcases h with ⟨f, rfl⟩ | ⟨o, _⟩
 ·exact ⟨f, fz_self rfl⟩
 ·exact o.fz hp
theorem XI.keep {N M : Nat} {g g' : H2} {x : X} {zs : List Int} (h : XI N M g x zs) (hn' : hn g .mk ≤ hn g' .mk) (hf : ∀ c, N ≤ c → c < M → hg g' c .mk = hg g c .mk) : XI N M g' x zs := by
 rcases h with h | ⟨⟨h1, h2⟩, h3⟩
 ·exact .inl h
 ·refine .inr ⟨⟨h1, h2.imp_right fun ⟨b, e1, e2, e3, e4⟩ => ⟨b, e1, e2, by omega, (hf b e2 (h3 b (by rw [e1]; rfl))).trans e4⟩⟩, h3⟩
theorem lit_allP {q : Nat → Prop} {b : Nat} {f : Adr} {k : List LPart} (hb : q b) (h : AllB q (.sl f 2 (rPartS k))) : AllB q (.sl (litA b 1 1 [.sl f 2 (rPartS k)]) 1 [ePartS k]) :=
 lit_all (n := 1) (z := 1) (cs := [.sl f 2 (rPartS k)]) (ts := ePartS k) rfl rfl hb fun x hx => by
  simp only [List.mem_cons, List.not_mem_nil, or_false] at hx
  subst hx
  exact .inr ⟨_, _, _, rfl, h⟩
theorem RowF.fz {α : Type} {e : α → List T} {z : Nat} (he : Ele e z) {p : Nat → Prop} {g : H2} {b n : Nat} {l : List α} (r : RowF e z g b l) (hb : p b) (hn' : n = l.length) : ∃ f, Fz p (fun _ => True) g (.raw (.slice (some ⟨b, 0, none⟩) n n)) (.sl f z (l.map e)) := by
 subst hn'
 obtain ⟨cs, o, h⟩ := r.own (Nat.le_refl b)
 obtain ⟨h1, h2⟩ := o
 obtain ⟨b', e1, e2, e3, e4⟩ := h2.resolve_left (fun h => by cases h.1)
 cases e1
 have := Fz.own (p := p) (q := fun _ => True) (g := g) (b := b) (n := l.length) (z := z) (cs := cs) (cs' := cs) e4 hb h1 rfl (fun i hi hi' => by
  rcases h.2.1 _ (List.getElem_mem hi) with ⟨n, e⟩ | ⟨f, k, es, e⟩
  ·rw [e]; exact .raw
  ·rw [e]; exact .sl (.sl (allT_true _ _))) h.1
 rw [chunk_E he] at this
 exact ⟨_, this⟩
theorem tokenB_ok {F : Nat → Adr} {m : LModel} {b : Nat} {r s : Int} {fp : Adr} {past : List LCell} {t : Nat} {g : H2} (mt : Mt (some b) g r s) (ht : ModT m) (hp : ∀ c ∈ past, CellT m c) (hpl : (past.length : Int) < m.context) (htk : t < m.embed.length) (hsz : m.embed.length ≤ 1048576) :
  PM Tryz.prog W0 51 [.st (xModel F m), .sl fp 2 (rCellS past), .raw (.int .i64 t), .raw (.pointer (some ⟨b, 0, none⟩))] g (some b) (tokRE m past t r) (tokSE m past t s) fun y => (∃ F' f, y = .tp [.st (xCell F' (cellI m past t)), .sl f 1 (ints (logitsI m past t))]) ∧ AllB (fun b => hn g .mk ≤ b) y := by
 refine (PM.of (q := fun b => hn g .mk ≤ b) (Q := fun y => ∃ F' f, y = .tp [.st (xCell F' (cellI m past t)), .sl f 1 (ints (logitsI m past t))]) mt ?_).mono fun y ⟨h1, h2⟩ => ⟨h1, h2.imp fun b hb => hb.elim id id⟩
 have hct := (turns_t ht.turns).1
 have hnl := ht.nl
 have hrow := ht.row t htk
 have hel : (m.embed.getD t default).length ≤ 8 := by have := ht.dim; omega
 have hNp : ∀ c, (some b : Option Nat) = some c → c < hn g .mk := fun c e => (mt c e).1
 have p0 : (some b : Option Nat) ≠ some (hn g .mk) := fun e => by have := hNp _ e; omega
 have p1 : (some b : Option Nat) ≠ some (hn g .mk + 1) := fun e => by have := hNp _ e; omega
 refine begins [[0, 1, 2, 3], [1, 2, 3, 4, 8], [1, 2, 3, 4, 8, 10], [1, 3, 4, 8, 10, 11], [1, 3, 4, 8, 10, 11, 12], [1, 3, 4, 8, 10, 11, 12, 13], [1, 3, 4, 8, 10, 11, 12, 13], [1, 3, 4, 8, 10, 11, 12, 13], [1, 3, 4, 8, 10, 11, 12, 13, 14, 15], [1, 3, 4, 8, 10, 11, 12, 13, 14, 15], [1, 3, 4, 8, 10, 11, 12, 13, 14, 15], [1, 3, 4, 8, 10, 11, 12, 13, 14, 15, 17], [1, 3, 4, 8, 10, 11, 12, 13, 14, 15, 17, 18], [1, 3, 4, 8, 10, 11, 12, 13, 14, 15, 17, 18, 19], [1, 3, 4, 8, 10, 11, 12, 13, 14, 15, 17, 18, 19], [1, 3, 4, 8, 10, 11, 12, 13, 14, 15, 17, 18, 19], [1, 3, 4, 8, 10, 11, 12, 13, 14, 15, 17, 18, 19], [1, 3, 4, 8, 10, 11, 12, 13, 14, 15, 17, 18], [1, 3, 4, 8, 10, 11, 12, 13, 15, 17, 18], [1, 3, 4, 8, 10, 11, 12, 13, 17, 18], [3, 4, 8, 11, 12], [3, 4, 8, 12, 20], [4, 8, 12, 20], [8, 12, 22]] Tryz.func51 rfl (rs := [.cell 8 37, .tmp 9]) rfl rfl ?_
 intro wf
 have hne1 : (hn g .mk == hn g .mk + 1) = false := by simp
 have hne2 : (hn g .mk == hn g .mk + 1 + 1) = false := zne
 have hne3 : (hn g .mk + 1 == hn g .mk + 1 + 1) = false := by simp
 repeat (first | rw [ko] | rw [kr] | simp -dsimp -implicitDefEqProofs only [go_sem, sQ1, sQ3, hoo, hne1, hne2, htk])
 refine appI (P := Tryz.prog) (N := hn g .mk + 1 + 1) (xs := []) Go.Ai.ty_el25 Go.Ai.ty_zr3 Go.Ai.ty_cl25 (by omega) (Own.new (by simp only [hn_push]; omega) rfl) (by simp only [hn_push]; omega) (by simp only [List.length_nil]; omega) ?_
 intro x0 g1 ox nn1 on1
 rw [List.nil_append] at ox
 have c0 := ownI_cell ox
 have r11 : hg g1 (hn g .mk) .mk = _ := (on1 _ (by omega)).trans (by simp -dsimp -implicitDefEqProofs only [go_sem, hoo, hne1, hne2] <;> rfl)
 have r12 : hg g1 (hn g .mk + 1) .mk = _ := (on1 _ (by omega)).trans (by simp -dsimp -implicitDefEqProofs only [go_sem, hoo, hne3] <;> rfl)
 have onA : OnM (some b) g g1 := OnM.below (N := hn g .mk + 1 + 1) (OnM.push (OnM.push (OnM.push OnM.refl))) (by omega) nn1 on1
 have mtA : Mt (some b) g1 r s := Mt.below (N := hn g .mk + 1 + 1) (mt.push.push.push) (fun c e => by have := hNp c e; omega) nn1 on1
 have f1 : (hn g .mk == hn g1 .mk) = false := zne
 have f2 : (hn g .mk + 1 == hn g1 .mk) = false := zne
 repeat (first | rw [ko] | rw [kr] | simp -dsimp -implicitDefEqProofs only [go_sem, sQ1, sQ2, hoo])
 refine lz_keep [1, 3, 4, 8, 10, 12] (fun mm e h' => ∃ (i : Nat) (xX vK vV : X), OnM (some b) g h' ∧ hn g1 .mk + 1 ≤ hn h' .mk ∧ Mt (some b) h' (tokR m past t r i) (tokS m past t s i) ∧ hg h' (hn g .mk) .mk = some ⟨14, [.raw (.int .i64 m.dim), .raw (.int .i64 m.heads), .raw (.int .i64 m.context), .sl (F 3) 2 (rMergeS m.merges), .sl (F 4) 1 (rIntSS m.embed), .sl (F 5) 32 (rLayerS m.layers), .sl (F 6) 1 (ints m.gainEnd), .raw (.int .i64 m.head.width), .sl (F 8) 1 (rIntSS m.head.rows), .sl (F 9) 1 (rIntSS m.head.scales), .raw (.int .i64 m.head.mul), .raw (.int .i64 m.head.shift), .sl (F 12) 1 (rIntSS m.turns.cos), .sl (F 13) 1 (rIntSS m.turns.sin)]⟩ ∧ hg h' (hn g .mk + 1) .mk = some ⟨2, [.raw (.slice none 0 0), .raw (.slice none 0 0)]⟩ ∧ hg h' (hn g1 .mk) .mk = some ⟨2, [vK, vV]⟩ ∧ look e 13 .mk = .raw (.int .i64 (i : Nat)) ∧ look e 11 .mk = xX ∧ mm + i = m.layers.length ∧ XI (hn g .mk + 1 + 1) (hn g1 .mk) h' xX (tokX m past t i).1 ∧ RowB ePartS 1 (hn g1 .mk + 1) h' vK (tokX m past t i).2.keys ∧ RowB ePartS 1 (hn g1 .mk + 1) h' vV (tokX m past t i).2.values ∧ ∀ c, blockOf vK = some c → blockOf vV ≠ some c) m.layers.length ?_ ?_
 ·refine ⟨0, x0, _, _, OnM.push onA, by simp only [hn_push]; omega, Mt.push mtA, by simp -dsimp -implicitDefEqProofs only [go_sem, f1, r11], by simp -dsimp -implicitDefEqProofs only [go_sem, f2, r12], by simp -dsimp -implicitDefEqProofs only [go_sem, hoo], zsm, zsm, by omega, ?_, .inl ⟨rfl, rfl⟩, .inl ⟨rfl, rfl⟩, fun c h => by cases h⟩
  refine XI.keep (g := g1) (.inr ⟨ox, fun c e => ?_⟩) (by simp only [hn_push]; omega) fun c _ hc => ?_
  ·obtain ⟨_, h⟩ := ox
   rcases h with ⟨rfl, _⟩ | ⟨q, rfl, a1, a2, _⟩
   ·cases e
   ·simp only [blockOf, Option.some.injEq] at e; omega
  ·rw [hg_push, show (c == hn g1 .mk) = false by simp; omega]
   rfl
 rintro mm e h' hks ⟨i, xX, vK, vV, onL, nn, mtL, r1, r2, r3, ei, ex, hm, xi, rK, rV, hKV⟩
 simp -dsimp -implicitDefEqProofs only [go_sem, sQ1] at hks
 have cx := xi.cell
 have cK := rK.cell
 have cV := rV.cell
 by_cases q1 : (i : Int) < (m.layers.length : Int)
 ·have q2 : i < m.layers.length := by omega
  have w1 := zwrs i (by omega)
  have hxv : VecM m 500 (tokX m past t i).1 := tok_ok ht htk (Nat.le_of_lt q2)
  have hlay := ht.lay i q2
  have kok := keys_ok (p := past.length) ht hlay hxv
  have vok := vals_ok ht hlay hxv
  have kat : PartsM m (tokK m past t i) := keysAt_ok ht hp q2 kok
  have vat : PartsM m (tokV m past t i) := valsAt_ok ht hp q2 vok
  have tc := tokX_cell (past := past) ht htk (Nat.le_of_lt q2)
  obtain ⟨fx, hfx⟩ := xi.fz (p := fun c => (some b : Option Nat) ≠ some c) (fun c hc e => by have := hNp c e; omega)
  repeat (first | rw [ko] | rw [kr] | simp -dsimp -implicitDefEqProofs only [go_sem, sQ1, hks, ei, ex, q1, r1])
  refine pm_intro (PM.lend (.cons (fz_st (xs := xModel F m) rfl) (.cons .raw (.cons .raw (.cons hfx (.cons .raw .nil))))) mtL (keyValueB_ok (F := F) (k := past.length) mtL.bar ht q2 hpl (hxv.mono (by omega))) (fun y hy => by have := hy.2; rwa [hn_barM] at this)) ?_
  rintro _ n2 hn2 ⟨⟨fk, fv, rfl⟩, ha⟩
  rw [hn_barM] at ha
  have haK : AllB (fun c => hn h' .mk ≤ c) (.sl fk 2 (rPartS (keysI m (m.layers.getD i default) past.length (tokX m past t i).1))) := by cases ha with | tp hh => exact hh _ List.mem_cons_self
  have haV : AllB (fun c => hn h' .mk ≤ c) (.sl fv 2 (rPartS (valsI m (m.layers.getD i default) (tokX m past t i).1))) := by cases ha with | tp hh => exact hh _ (List.mem_cons_of_mem _ List.mem_cons_self)
  have on1' : OnM (some b) h' _ := OnM.up (n := n2) (OnM.gM (r := kvR (m.layers.getD i default) (tokX m past t i).1 (tokR m past t r i)) (s := tokS m past t s i) OnM.refl) (by rw [hn_gM]; exact hn2)
  have mt1' := Mt.up (n := n2) (Mt.set (r' := kvR (m.layers.getD i default) (tokX m past t i).1 (tokR m past t r i)) (s' := tokS m past t s i) mtL) (by rw [hn_gM]; exact hn2)
  have pn : (some b : Option Nat) ≠ some (hn g1 .mk) := fun e => by have := hNp _ e; omega
  have pq : ((some b : Option Nat) == some (hn g1 .mk)) = false := by simp at pn ⊢; omega
  have pq0 : ((some b : Option Nat) == some (hn g .mk)) = false := by simp at p0 ⊢; omega
  have hNq : ∀ c, (some b : Option Nat) = some c → c < hn g1 .mk + 1 := fun c e => by have := hNp c e; omega
  repeat (first | rw [ko] | rw [kr] | simp -dsimp -implicitDefEqProofs only [go_sem, sQ1, sQ3, r3, hg_gM pq])
  refine appB (P := Tryz.prog) (N := hn g1 .mk + 1) (a := (keysI m (m.layers.getD i default) past.length (tokX m past t i).1)) elePS Go.Ai.ty_el35 Go.Ai.ty_zr156 rfl Go.Ai.ty_cl35 (by omega) (rK.on on1' hNq) (by simp only [hn_up]; omega) (by omega) (lit_allP (by omega) (haK.imp fun c hc => by omega)) ?_
  intro vK2 g2 rK2 bK2 nK2 frK
  simp only [hn_up] at bK2 nK2 frK
  have o12 : ∀ c, c < hn g1 .mk + 1 → (some b : Option Nat) ≠ some c → hg g2 c .mk = hg h' c .mk := fun c hc hb => (frK c (by omega) (fun e => by have := (rK.lt c e).1; omega)).trans (on1'.2 c (by omega) hb)
  have r32 : hg g2 (hn g1 .mk) .mk = some ⟨2, [vK, vV]⟩ := (o12 _ (by omega) pn).trans r3
  have rV2 := (rV.on on1' hNq).keep (g' := g2) zau fun c hc => frK c (by have := (rV.lt c hc).2; omega) (fun e => hKV c e hc)
  have mt2 : Mt (some b) g2 _ _ := Mt.below (N := hn g1 .mk + 1) mt1' hNq (by omega) (fun c hc => frK c (by omega) (fun e => by have := (rK.lt c e).1; omega))
  have cK2 := rK2.cell
  repeat (first | rw [ko] | rw [kr] | simp -dsimp -implicitDefEqProofs only [go_sem, sQ1, sQ3, r32, cK2])
  have rV3 := rV2.keep (g' := g2.set (hn g1 .mk) ⟨2, [vK2, vV]⟩) (Nat.le_refl _) fun c hc => by
   rw [hg_set, show (c == hn g1 .mk) = false by have := (rV2.lt c hc).1; simp; omega]; rfl
  refine appB (P := Tryz.prog) (N := hn g1 .mk + 1) (a := (valsI m (m.layers.getD i default) (tokX m past t i).1)) elePS Go.Ai.ty_el35 Go.Ai.ty_zr156 rfl Go.Ai.ty_cl35 (by omega) rV3 zau (by omega) (lit_allP zau (haV.imp fun c hc => by omega)) ?_
  intro vV2 g3 rV4 bV4 nV4 frV
  simp only [hn_set] at bV4 nV4 frV
  have o23 : ∀ c, c < hn g1 .mk + 1 → c ≠ hn g1 .mk → hg g3 c .mk = hg g2 c .mk := fun c hc hne => (frV c (by omega) (fun e => by have := (rV.lt c e).1; omega)).trans (by rw [hg_set, show (c == hn g1 .mk) = false by simp; omega]; rfl)
  have r33 : hg g3 (hn g1 .mk) .mk = some ⟨2, [vK2, vV]⟩ := (frV _ (by omega) (fun e => by have := (rV.lt _ e).1; omega)).trans (by rw [hg_set, show (hn g1 .mk == hn g1 .mk) = true by simp]; rfl)
  have rK3 := rK2.keep (g' := g3) (by omega) fun c hc => (frV c (by have := (rK2.lt c hc).2; omega) (fun e => by
   rw [bK2] at hc
   cases hc
   have := (rV.lt _ e).2
   omega)).trans (by rw [hg_set, show (c == hn g1 .mk) = false by have := (rK2.lt c hc).1; simp; omega]; rfl)
  have cV4 := rV4.cell
  repeat (first | rw [ko] | rw [kr] | simp -dsimp -implicitDefEqProofs only [go_sem, sQ1, sQ3, r33, cV4])
  have o2S : ∀ c, c < hn g1 .mk → hg g3 c .mk = hg g2 c .mk := fun c hc => o23 c (by omega) (by omega)
  have mt3 : Mt (some b) g3 (kvR (m.layers.getD i default) (tokX m past t i).1 (tokR m past t r i)) (tokS m past t s i) := Mt.below (N := hn g1 .mk) mt2 (fun c e => by have := hNp c e; omega) (by omega) o2S
  have on3 : OnM (some b) g g3 := OnM.below (N := hn g1 .mk) (g := g2) (OnM.below (N := hn g1 .mk) (onL.trans on1') (by omega) (by omega) (fun c hc => frK c (by omega) (fun e => by have := (rK.lt c e).1; omega))) (by omega) (by omega) o2S
  have r31 : hg g3 (hn g .mk) .mk = _ := (o2S _ (by omega)).trans ((o12 _ (by omega) p0).trans r1)
  have r3t : hg g3 (hn g .mk + 1) .mk = _ := (o2S _ (by omega)).trans ((o12 _ (by omega) p1).trans r2)
  have xi3 : XI (hn g .mk + 1 + 1) (hn g1 .mk) g3 xX (tokX m past t i).1 := xi.keep (by omega) fun c h1 h2 => (o2S c h2).trans (o12 c (by omega) (fun e => by have := hNp c e; omega))
  generalize hS : g3.set (hn g1 .mk) ⟨2, [vK2, vV2]⟩ = S
  have nS : hn S .mk = hn g3 .mk := by rw [← hS, hn_set]
  have oS : ∀ c, c ≠ hn g1 .mk → hg S c .mk = hg g3 c .mk := fun c hc => by rw [← hS, hg_set, show (c == hn g1 .mk) = false by simp; omega]; rfl
  have rS3 : hg S (hn g1 .mk) .mk = some ⟨2, [vK2, vV2]⟩ := by rw [← hS, hg_set, show (hn g1 .mk == hn g1 .mk) = true by simp]; rfl
  have rS1 : hg S (hn g .mk) .mk = _ := (oS _ (by omega)).trans r31
  have rSt : hg S (hn g .mk + 1) .mk = _ := (oS _ (by omega)).trans r3t
  have mtS : Mt (some b) S (kvR (m.layers.getD i default) (tokX m past t i).1 (tokR m past t r i)) (tokS m past t s i) := by rw [← hS]; exact mt3.put pq
  have onS : OnM (some b) g S := by rw [← hS]; exact OnM.put on3 (by omega)
  have rKS := rK3.keep (g' := S) (by omega) fun c hc => oS c (by have := (rK3.lt c hc).1; omega)
  have rVS := rV4.keep (g' := S) (by omega) fun c hc => oS c (by have := (rV4.lt c hc).1; omega)
  have xiS : XI (hn g .mk + 1 + 1) (hn g1 .mk) S xX (tokX m past t i).1 := xi3.keep (by omega) fun c _ h2 => oS c (by omega)
  clear hS
  have kl : (past.map fun c => c.keys.getD i default).length = past.length := List.length_map _
  have vl : (past.map fun c => c.values.getD i default).length = past.length := List.length_map _
  refine lz_keep [1, 3, 4, 8, 10, 11, 12, 13, 14, 15] (fun m2 e2 h2 => ∃ (j b16 b17 : Nat), S.le h2 ∧ hn S .mk ≤ b16 ∧ hn S .mk ≤ b17 ∧ b16 ≠ b17 ∧ RowF ePartS 1 h2 b16 ((past.map fun c => c.keys.getD i default).take j) ∧ RowF ePartS 1 h2 b17 ((past.map fun c => c.values.getD i default).take j) ∧ look e2 19 .mk = .raw (.int .i64 (j : Nat)) ∧ look e2 17 .mk = .raw (.slice (some ⟨b16, 0, none⟩) j j) ∧ look e2 18 .mk = .raw (.slice (some ⟨b17, 0, none⟩) j j) ∧ m2 + j = past.length) past.length ?_ ?_
  ·have hnS : (hn S .mk == hn S .mk + 1) = false := by simp
   exact ⟨0, hn S .mk, hn S .mk + 1, le_push (le_push (H2.le.refl _)), by omega, by omega, by omega, ⟨by simp only [hn_push]; omega, [], by simp -dsimp -implicitDefEqProofs only [go_sem, hoo, hnS], .nil⟩, ⟨by simp only [hn_push]; omega, [], by simp -dsimp -implicitDefEqProofs only [go_sem, hoo], .nil⟩, zsm, by simp -dsimp -implicitDefEqProofs only [go_sem, nS], by simp -dsimp -implicitDefEqProofs only [go_sem, nS], by omega⟩
  rintro m2 e2 h2 hks2 ⟨j, b16, b17, leS, n16, n17, ne67, rf16, rf17, ej, e16, e17, hm2⟩
  simp -dsimp -implicitDefEqProofs only [go_sem, sQ1] at hks2
  have l16 : ((past.map fun c => c.keys.getD i default).take j).length = j := by rw [List.length_take, kl]; omega
  have l17 : ((past.map fun c => c.values.getD i default).take j).length = j := by rw [List.length_take, vl]; omega
  have lt16 := rf16.1
  have lt17 := rf17.1
  have nSl := leS.1
  by_cases p1' : (j : Int) < (past.length : Int)
  ·have p2' : j < past.length := by omega
   have cj := hp _ (getD_mem p2')
   have q3 : i < (past.getD j default).keys.length := by rw [cj.1]; exact q2
   have q4 : i < (past.getD j default).values.length := by rw [cj.2.1]; exact q2
   have w2 := zwrs j (by omega)
   repeat (first | rw [ko] | rw [kr] | simp -dsimp -implicitDefEqProofs only [go_sem, sQ1, sQ2, sQ3, hks2, ej, e16, e17, p1', p2', q3, hoo])
   refine appF (P := Tryz.prog) (a := (past.getD j default).keys.getD i default) elePS Go.Ai.ty_el35 Go.Ai.ty_zr156 rfl Go.Ai.ty_cl35 (by omega) rf16 (by omega) (by omega) ?_
   intro g7 rf7 n7 fr7
   repeat (first | rw [ko] | rw [kr] | simp -dsimp -implicitDefEqProofs only [go_sem, sQ1, sQ2, sQ3, p2', q4])
   refine appF (P := Tryz.prog) (a := (past.getD j default).values.getD i default) elePS Go.Ai.ty_el35 Go.Ai.ty_zr156 rfl Go.Ai.ty_cl35 (by omega) (RowF.keep rf17 (by omega) (fr7 b17 lt17 (fun e => ne67 e.symm))) (by omega) (by omega) ?_
   intro g8 rf8 n8 fr8
   repeat (first | rw [ko] | rw [kr] | simp -dsimp -implicitDefEqProofs only [go_sem, sQ1, w2])
   refine nx_keep (m2 - 1) (by omega) zsm ⟨j + 1, hn h2 .mk + 1, hn g7 .mk + 1, ?_, by omega, by omega, by omega, ?_, ?_, zsm, zsm, zsm, by omega⟩
   ·exact ⟨by omega, fun c hc => (fr8 c (by omega) (by omega)).trans ((fr7 c (by omega) (by omega)).trans (leS.2 c hc))⟩
   ·rw [mapL_snoc p2']
    exact RowF.keep rf7 (by omega) (fr8 _ (by omega) (by omega))
   ·rw [mapL_snoc p2']
    exact rf8
  have hj : j = past.length := by omega
  rw [hj, ← kl, List.take_length] at rf16
  rw [hj, ← vl, List.take_length] at rf17
  repeat (first | rw [ko] | rw [kr] | simp -dsimp -implicitDefEqProofs only [go_sem, sQ1, sQ3, hks2, ej, e16, e17, p1'])
  refine appF (P := Tryz.prog) (a := (keysI m (m.layers.getD i default) past.length (tokX m past t i).1)) elePS Go.Ai.ty_el35 Go.Ai.ty_zr156 rfl Go.Ai.ty_cl35 (by omega) rf16 (by omega) (by omega) ?_
  intro g7 rf7 n7 fr7
  repeat (first | rw [ko] | rw [kr] | simp -dsimp -implicitDefEqProofs only [go_sem, sQ1, sQ3])
  refine appF (P := Tryz.prog) (a := (valsI m (m.layers.getD i default) (tokX m past t i).1)) elePS Go.Ai.ty_el35 Go.Ai.ty_zr156 rfl Go.Ai.ty_cl35 (by omega) (RowF.keep rf17 (by omega) (fr7 b17 lt17 (fun e => ne67 e.symm))) (by omega) (by omega) ?_
  intro g8 rf8 n8 fr8
  have rf78 := RowF.keep rf7 (by omega) (fr8 _ (by omega) (by omega))
  have le8 : S.le g8 := ⟨by omega, fun c hc => (fr8 c (by omega) (by omega)).trans ((fr7 c (by omega) (by omega)).trans (leS.2 c hc))⟩
  have r81 : hg g8 (hn g .mk) .mk = _ := (le8.2 _ (by omega)).trans rS1
  have mt8 := mtS.le le8
  have on8 : OnM (some b) g g8 := onS.le le8
  have xi8 : XI (hn g .mk + 1 + 1) (hn g1 .mk) g8 xX (tokX m past t i).1 := xiS.keep le8.1 fun c _ h2 => le8.2 c (by omega)
  have hpne : ∀ c, hn g .mk ≤ c → (some b : Option Nat) ≠ some c := fun c hc e => by have := hNp c e; omega
  obtain ⟨f8x, hf8x⟩ := xi8.fz (p := fun c => (some b : Option Nat) ≠ some c) (fun c hc => hpne c (by omega))
  obtain ⟨f8k, hf8k⟩ := RowF.fz elePS (p := fun c => (some b : Option Nat) ≠ some c) (n := j + 1) rf78 (hpne _ (by omega)) (by rw [List.length_append, kl]; simp; omega)
  obtain ⟨f8v, hf8v⟩ := RowF.fz elePS (p := fun c => (some b : Option Nat) ≠ some c) (n := j + 1) rf8 (hpne _ (by omega)) (by rw [List.length_append, vl]; simp; omega)
  have tkl : (tokK m past t i).length = past.length + 1 := by simp [tokK]
  have tvl : (tokV m past t i).length = past.length + 1 := by simp [tokV]
  repeat (first | rw [ko] | rw [kr] | simp -dsimp -implicitDefEqProofs only [go_sem, sQ1, r81])
  refine pm_intro (PM.lend (.cons (fz_st (xs := xModel F m) rfl) (.cons .raw (.cons .raw (.cons hf8x (.cons hf8k (.cons hf8v (.cons .raw .nil))))))) mt8 (MI.pm mt8.bar (stepB_ok (F := F) (k := past.length) (ks := tokK m past t i) (vs := tokV m past t i) mt8.bar ht q2 hpl (hxv.mono (by omega)) kat vat (by omega) (by omega) (by omega))) (fun y hy => by have := hy.2; rwa [hn_barM] at this)) ?_
  rintro _ n11 hn11 ⟨⟨f11, rfl⟩, _⟩
  repeat (first | rw [ko] | rw [kr] | simp -dsimp -implicitDefEqProofs only [go_sem, sQ1, w1])
  have on11 : OnM (some b) g8 _ := OnM.up (n := n11) (OnM.gM (r := tokR m past t r (i + 1)) (s := tokS m past t s (i + 1)) (OnM.refl (p := some b) (g := g8))) (by rw [hn_gM]; exact hn11)
  have leg : ∀ c, c < hn S .mk → (some b : Option Nat) ≠ some c → _ := fun c hc hb => (on11.2 c (by omega) hb).trans (le8.2 c hc)
  have rK11 := (rKS.keep le8.1 fun c hc => le8.2 c (rKS.lt c hc).2).on on11 hNq
  have rV11 := (rVS.keep le8.1 fun c hc => le8.2 c (rVS.lt c hc).2).on on11 hNq
  refine nx_keep (mm - 1) (by omega) zsm ⟨i + 1, .sl f11 1 (ints (tokX m past t (i + 1)).1), vK2, vV2, on8.trans on11, by simp only [hn_up]; omega, Mt.up (Mt.set mt8) (by rw [hn_gM]; exact hn11), (leg _ (by omega) p0).trans rS1, (leg _ (by omega) p1).trans rSt, (leg _ (by omega) pn).trans rS3, zsm, by simp -dsimp -implicitDefEqProofs only [go_sem, sQ1] <;> rfl, by omega, .inl ⟨f11, rfl⟩, rK11, rV11, fun c h1 h2 => ?_⟩
  rw [bK2, Option.some.injEq] at h1
  rw [bV4, Option.some.injEq] at h2
  omega
 obtain rfl : i = m.layers.length := by omega
 have hxv : VecM m 500 (tokX m past t m.layers.length).1 := tok_ok ht htk (Nat.le_refl _)
 have hge := gain_t ht.gain
 have hnx : VecM m 127 (normI (tokX m past t m.layers.length).1 m.gainEnd) := hxv.norm
 have hvl := hxv.rng ht
 have hnx2 := hnx.rng ht
 have hhd := with_t ht.head
 obtain ⟨fx, hfx⟩ := xi.fz (p := fun _ => True) (fun _ _ => trivial)
 have pq : ((some b : Option Nat) == some (hn g1 .mk)) = false := by have := hNp b rfl; simp; omega
 have pq0 : ((some b : Option Nat) == some (hn g .mk)) = false := by simp at p0 ⊢; omega
 have pq1 : ((some b : Option Nat) == some (hn g .mk + 1)) = false := by simp at p1 ⊢; omega
 have hNq : ∀ c, (some b : Option Nat) = some c → c < hn g1 .mk + 1 := fun c e => by have := hNp c e; omega
 repeat (first | rw [ko] | rw [kr] | simp -dsimp -implicitDefEqProofs only [go_sem, sQ1, hks, ei, ex, q1, r1])
 refine pw_intro (PW.lend (.cons hfx (.cons (fz_self rfl) .nil)) (TI.pw (normB_ok (x := (tokX m past t m.layers.length).1) (gn := m.gainEnd) (absB_mono hxv.2 (by omega)) (by omega) (by omega) (by omega) hge.2.1)) (fun y hy => hy.2)) ?_
 rintro _ n3 hn3 ⟨⟨f3, rfl⟩, _⟩
 repeat (first | rw [ko] | rw [kr] | simp -dsimp -implicitDefEqProofs only [go_sem, sQ1, r1])
 refine pm_call (by exact Mt.up mtL hn3) (fun mtb => sumsB_ok (F := fun j => F (j + 7)) mtb hhd.1 (by omega) hnx.2) ?_
 rintro _ n4 hn4 mt4 on4 rfl
 simp only [hn_up] at hn4
 repeat (first | rw [ko] | rw [kr] | simp -dsimp -implicitDefEqProofs only [go_sem, sQ1, r1, hg_gM pq0])
 refine pw_intro (TI.pw (wideB_ok (F := fun j => F (j + 7)) (m := m.head) hhd.1 (by omega) hnx.2)) ?_
 rintro _ n5 hn5 ⟨⟨f5, rfl⟩, a5⟩
 simp only [hn_up] at hn5 a5
 have onZ : OnM (some b) h' _ := OnM.up (OnM.trans (OnM.up OnM.refl hn3) on4) (by simp only [hn_up]; omega)
 have rKz := rK.on onZ hNq
 have rVz := rV.on onZ hNq
 repeat (first | rw [ko] | rw [kr] | simp -dsimp -implicitDefEqProofs only [go_sem, sQ1, sQ2, r2, r3, hg_gM pq, hg_gM pq1, cK, cV])
 obtain ⟨fk, hfk⟩ := (rKz.keep (g' := H2.set _ (hn g .mk + 1) ⟨2, [vK, vV]⟩) (Nat.le_refl _) fun c hc => by
  rw [hg_set, show (c == hn g .mk + 1) = false by have := (rKz.lt c hc).1; simp; omega]; rfl).fz elePS (p := fun c => hn g .mk ≤ c) (fun c hc => by omega)
 obtain ⟨fv, hfv⟩ := (rVz.keep (g' := H2.set _ (hn g .mk + 1) ⟨2, [vK, vV]⟩) (Nat.le_refl _) fun c hc => by
  rw [hg_set, show (c == hn g .mk + 1) = false by have := (rVz.lt c hc).1; simp; omega]; rfl).fz elePS (p := fun c => hn g .mk ≤ c) (fun c hc => by omega)
 have a6 : AllB (fun c => hn g .mk ≤ c) (.sl f5 1 (ints (logitsI m past t))) := by
  cases a5 with
  | tp hh => exact (hh _ List.mem_cons_self).imp fun c hc => by omega
 exact ⟨OnM.put (onL.trans onZ) (by omega), Mt.put (by first | exact Mt.up mt4 (by simp only [hn_up, hn_gM, hn_push, hn_set]; omega) | exact Mt.up (Mt.set (Mt.up mtL hn3)) (by simp only [hn_up, hn_gM]; omega)) pq1, _, fz2 (fzs2 (hfk.imp (fun _ h => h) fun c hc => by omega) (hfv.imp (fun _ h => h) fun c hc => by omega)) (.sl a6), fun j => if j = 0 then fk else fv, f5, rfl⟩
end Go.Bi
end
section
set_option maxRecDepth 20000
namespace Go.Bi
open Go.Proofs
open Go.Ai (wrap_i64 Heap)
variable {W0 : World} {P : Program}
set_option maxHeartbeats 4000000
theorem implModel_ok {F : Nat → Adr} {m : LModel} {g : H2} (hs : smallMod m) : PW Tryz.prog W0 59 [.st (xModel F m)] g (fun y => y = .raw (.bool (modelB m))) := by
 obtain ⟨s1, s2, s3, s4, s5, s6, s7, s8⟩ := hs
 refine PW.scalar ?_
 refine begins [[0], [1], [], [1], [], [1], [], [1]] Tryz.func59 rfl (rs := [.tmp 2]) rfl rfl ?_
 intro wf
 repeat (first | rw [ko] | rw [kr] | simp -dsimp -implicitDefEqProofs only [go_sem, hoo])
 refine dq_intro [(0, []), (1, []), (2, []), (3, []), (4, []), (5, []), (6, []), (7, []), (8, []), (9, []), (10, []), (11, []), (12, []), (13, []), (14, []), (15, []), (16, []), (17, []), (18, []), (19, []), (20, []), (21, [18]), (22, []), (23, []), (24, []), (25, []), (26, []), (27, []), (28, []), (29, []), (30, [])] (by kernel_rfl) ?_
 repeat (first | rw [ko] | rw [kr] | simp -dsimp -implicitDefEqProofs only [go_sem, hoo])
 refine wz_intro isWidth_ok ?_
 rintro _ _ ⟨rfl, rfl⟩
 cases h1 : widthB m.dim
 ·repeat (first | rw [ko] | rw [kr] | simp -dsimp -implicitDefEqProofs only [go_sem, sQ1, hoo])
  exact ⟨le_push (H2.le.refl _), ⟨_, rfl⟩, by rw [modelB, h1]; rfl⟩
 repeat (first | rw [ko] | rw [kr] | simp -dsimp -implicitDefEqProofs only [go_sem, sQ1, hoo])
 refine wz_intro in_ok ?_
 rintro _ _ ⟨rfl, rfl⟩
 cases h2 : inI m.heads 1 2
 ·repeat (first | rw [ko] | rw [kr] | simp -dsimp -implicitDefEqProofs only [go_sem, sQ1, hoo])
  exact ⟨le_push (H2.le.refl _), ⟨_, rfl⟩, by rw [modelB, h1, h2]; rfl⟩
 repeat (first | rw [ko] | rw [kr] | simp -dsimp -implicitDefEqProofs only [go_sem, sQ1, hoo])
 refine pw_intro (implMergesOk_ok s1) ?_
 rintro _ n1 hn1 rfl
 try (rw [kq]; refine ⟨zsm, ?_⟩)
 cases h3 : mergesB m.merges
 ·repeat (first | rw [ko] | rw [kr] | simp -dsimp -implicitDefEqProofs only [go_sem, sQ1, hoo])
  exact ⟨zale, ⟨_, rfl⟩, by rw [modelB, h1, h2, h3]; rfl⟩
 repeat (first | rw [ko] | rw [kr] | simp -dsimp -implicitDefEqProofs only [go_sem, sQ1, hoo])
 refine pw_intro (voc1_ok (F := F) (m := m) s1) ?_
 rintro _ n2 hn2 rfl
 try (rw [kq]; refine ⟨by simp -dsimp -implicitDefEqProofs only [go_sem, sQ1, hoo], ?_⟩)
 by_cases h4 : (m.embed.length : Int) = vocI m
 rotate_left
 ·have e4 : decide (¬ (m.embed.length : Int) = vocI m) = true := decide_eq_true h4
  repeat (first | rw [ko] | rw [kr] | simp -dsimp -implicitDefEqProofs only [go_sem, sQ1, hoo, e4])
  exact ⟨zale, ⟨_, rfl⟩, by rw [modelB, h1, h2, h3, decide_eq_false h4]; rfl⟩
 have e4 : decide (¬ (m.embed.length : Int) = vocI m) = false := decide_eq_false (fun h => h h4)
 repeat (first | rw [ko] | rw [kr] | simp -dsimp -implicitDefEqProofs only [go_sem, sQ1, hoo, e4])
 refine wz_intro in_ok ?_
 rintro _ _ ⟨rfl, rfl⟩
 try (rw [kq]; refine ⟨zsm, ?_⟩)
 cases h5 : inI m.layers.length 1 2
 ·repeat (first | rw [ko] | rw [kr] | simp -dsimp -implicitDefEqProofs only [go_sem, sQ1, hoo])
  exact ⟨zale, ⟨_, rfl⟩, by rw [modelB, h1, h2, h3, decide_eq_true h4, h5]; rfl⟩
 repeat (first | rw [ko] | rw [kr] | simp -dsimp -implicitDefEqProofs only [go_sem, sQ1, hoo])
 simp only [hn_up, hn_push] at hn1 hn2
 refine pw_intro (containsR_ok (F := 122) (p := fun r => !embB m.dim r) (caps := [.pointer (some ⟨hn g .mk, 0, none⟩)]) s2.1 fun i hi f' h' hle => ?_) ?_
 ·exact emb1_ok ((hle.2 (hn g .mk) (by simp only [hn_up]; omega)).trans (by simp -dsimp -implicitDefEqProofs only [go_sem, hoo] <;> rfl)) (smallL_at s2 i)
 rintro _ n3 hn3 rfl
 simp only [hn_up] at hn3
 cases h6 : m.embed.any fun r => !embB m.dim r
 rotate_left
 ·repeat (first | rw [ko] | rw [kr] | simp -dsimp -implicitDefEqProofs only [go_sem, hoo])
  exact ⟨zale, ⟨_, rfl⟩, by rw [modelB, h1, h2, h3, decide_eq_true h4, h5, h6]; rfl⟩
 repeat (first | rw [ko] | rw [kr] | simp -dsimp -implicitDefEqProofs only [go_sem, sQ1, hoo])
 refine pw_intro (containsY_ok (F := 125) (p := fun l => !layB l m.dim) (caps := [.pointer (some ⟨hn g .mk, 0, none⟩)]) s3 fun i hi F' h' hle => ?_) ?_
 ·refine lay1_ok ?_ ((hle.2 (hn g .mk) (by simp only [hn_up]; omega)).trans (by simp -dsimp -implicitDefEqProofs only [go_sem, hoo] <;> rfl)) (s4 i hi)
  have := hle.1
  simp only [hn_up] at this; omega
 rintro _ n4 hn4 rfl
 simp only [hn_up] at hn4
 cases h7 : m.layers.any fun l => !layB l m.dim
 rotate_left
 ·repeat (first | rw [ko] | rw [kr] | simp -dsimp -implicitDefEqProofs only [go_sem, hoo])
  exact ⟨zale, ⟨_, rfl⟩, by rw [modelB, h1, h2, h3, decide_eq_true h4, h5, h6, h7]; rfl⟩
 repeat (first | rw [ko] | rw [kr] | simp -dsimp -implicitDefEqProofs only [go_sem, sQ1, hoo])
 refine dq_intro [(0, []), (1, []), (2, []), (3, []), (4, []), (5, []), (6, []), (7, []), (8, []), (9, []), (10, []), (11, [7, 9]), (12, []), (13, []), (14, []), (15, []), (16, []), (17, []), (18, []), (19, []), (20, []), (21, []), (22, []), (23, []), (24, []), (25, []), (26, []), (27, [])] (by kernel_rfl) ?_
 repeat (first | rw [ko] | rw [kr] | simp -dsimp -implicitDefEqProofs only [go_sem, sQ1, hoo])
 refine pw_intro (implGain_ok s5) ?_
 rintro _ n5 hn5 rfl
 simp only [hn_up] at hn5
 try (rw [kq]; refine ⟨zsm, ?_⟩)
 cases h8 : gainB m.gainEnd m.dim
 ·repeat (first | rw [ko] | rw [kr] | simp -dsimp -implicitDefEqProofs only [go_sem, sQ1, hoo])
  exact ⟨zale, ⟨_, rfl⟩, by rw [modelB, h1, h2, h3, decide_eq_true h4, h5, h6, h7, h8]; rfl⟩
 repeat (first | rw [ko] | rw [kr] | simp -dsimp -implicitDefEqProofs only [go_sem, sQ1, hoo])
 refine pw_intro (voc1_ok (F := F) (m := m) s1) ?_
 rintro _ n6 hn6 rfl
 simp only [hn_up] at hn6
 try (rw [kq]; refine ⟨by simp -dsimp -implicitDefEqProofs only [go_sem, sQ1, hoo], ?_⟩)
 repeat (first | rw [ko] | rw [kr] | simp -dsimp -implicitDefEqProofs only [go_sem, sQ1, hoo])
 refine pw_intro (implWithin_ok (F := fun j => F (j + 7)) (m := m.head) s6) ?_
 rintro _ n7 hn7 rfl
 simp only [hn_up] at hn7
 try (rw [kq]; refine ⟨zsm, ?_⟩)
 cases h9 : withB m.head m.dim (vocI m)
 ·repeat (first | rw [ko] | rw [kr] | simp -dsimp -implicitDefEqProofs only [go_sem, sQ1, hoo])
  exact ⟨zale, ⟨_, rfl⟩, by rw [modelB, h1, h2, h3, decide_eq_true h4, h5, h6, h7, h8, h9]; rfl⟩
 have hw := width_rng h1
 have hh : m.heads = 1 ∨ m.heads = 2 := by have := inI_tt h2; omega
 have z0 : (m.heads == 0) = false := zne
 have w1 : IntKind.i64.wrap (Int.tdiv m.dim m.heads) = Int.tdiv m.dim m.heads := by
  rcases hw with hw | hw <;> rcases hh with hh | hh <;> rw [hw, hh] <;> decide
 have w2 : IntKind.i64.wrap (Int.tdiv (Int.tdiv m.dim m.heads) 2) = Int.tdiv (Int.tdiv m.dim m.heads) 2 := by
  rcases hw with hw | hw <;> rcases hh with hh | hh <;> rw [hw, hh] <;> decide
 repeat (first | rw [ko] | rw [kr] | simp -dsimp -implicitDefEqProofs only [go_sem, sQ1, sQ7, hoo, z0, w1, w2])
 refine pw_intro (implTurns_ok (F := fun j => F (j + 12)) (t := m.turns) s7 s8) ?_
 rintro _ n8 hn8 rfl
 simp only [hn_up] at hn8
 try (rw [kq]; refine ⟨zsm, ?_⟩)
 repeat (first | rw [ko] | rw [kr] | simp -dsimp -implicitDefEqProofs only [go_sem, sQ1, hoo])
 exact ⟨zale, ⟨_, rfl⟩, by rw [modelB, h1, h2, h3, decide_eq_true h4, h5, h6, h7, h8, h9]; rfl⟩
end Go.Bi
end
section
set_option maxRecDepth 20000
namespace Go.Bi
open Go.Proofs
open Go.Ai (wrap_i64 Heap)
variable {W0 : World} {P : Program}
set_option maxHeartbeats 8000000
def fillL (m : LModel) (ts : List Int) : Nat → List Int
 | 0 => []
 | n + 1 => logitsI m (fillI m ts n) (ts.getD n default).toNat
theorem OnM.toLe {g g' : H2} {p : Option Nat} (o : OnM p g g') (h : ∀ b, p = some b → hn g .mk ≤ b) : g.le g' := ⟨o.1, fun c hc => o.2 c hc fun e => by have := h c e; omega⟩
end Go.Bi
end
section
set_option maxRecDepth 20000
namespace Go.Bi
open Go.Proofs
open Go.Ai (wrap_i64 Heap)
variable {W0 : World} {P : Program}
set_option maxHeartbeats 8000000
theorem vocabB_ok {F : Nat → Adr} {c : LModel} {h : H2} (hm : c.merges.length ≤ 1048576) : PW Tryz.prog W0 100 [.st (xModel F c)] h (fun r => r = .raw (.int .i64 (vocI c))) := by
 refine PW.scalar ?_
 refine begins [[0], [1]] Tryz.func100 rfl (rs := [.tmp 2]) rfl rfl ?_
 intro wf
 have w : IntKind.i64.wrap (256 + (c.merges.length : Int)) = 256 + c.merges.length := by rw [wrap_i64] <;> omega
 repeat (first | rw [ko] | rw [kr] | simp -dsimp -implicitDefEqProofs only [go_sem, w])
 exact ⟨le_push (H2.le.refl _), ⟨_, rfl⟩, rfl⟩
theorem tokInB_ok {F : Nat → Adr} {m : LModel} {t : Int} {g : H2} (hm : m.merges.length ≤ 1048576) : PW Tryz.prog W0 49 [.st (xModel F m), .raw (.int .i64 t)] g (fun y => y = .raw (.bool (inI t 0 (vocI m - 1)))) := by
 refine PW.scalar ?_
 have hvv : vocI m = 256 + (m.merges.length : Int) := rfl
 refine begins [[0, 1], [1, 2]] Tryz.func49 rfl (rs := [.tmp 4]) rfl rfl ?_
 intro wf
 have w := wrapS (x := vocI m - 1) (by omega)
 repeat (first | rw [ko] | rw [kr] | simp -dsimp -implicitDefEqProofs only [go_sem, hoo])
 refine pw_intro (vocabB_ok (F := F) hm) ?_
 rintro _ n1 hn1 rfl
 rw [hn_push] at hn1
 repeat (first | rw [ko] | rw [kr] | simp -dsimp -implicitDefEqProofs only [go_sem, w])
 refine wz_intro l01In_ok ?_
 rintro _ _ ⟨rfl, rfl⟩
 repeat (first | rw [ko] | rw [kr] | simp -dsimp -implicitDefEqProofs only [go_sem])
 exact ⟨le_up (le_push (H2.le.refl _)) (by rw [hn_push]; exact hn1), ⟨_, rfl⟩, rfl⟩
end Go.Bi
end
section
set_option maxRecDepth 20000
namespace Go.Bi
open Go.Proofs
open Go.Ai (wrap_i64 Heap)
theorem sum_at {α : Type} [Inhabited α] {f : α → Nat} {l : List α} {i : Nat} (hi : i < l.length) : f (l.getD i default) ≤ sumN f l := sumN_mem (getD_mem hi)
theorem smallL_of {l : List (List Int)} (h : szIntSS l ≤ 1048576) : smallL l := ⟨by unfold szIntSS at h; omega, fun r hr => by
 have h1 : r.length ≤ sumN szIntS l := sumN_mem (f := szIntS) hr
 unfold szIntSS at h
 omega⟩
theorem smallM_of {m : LMatrix} (h : szMatrix m ≤ 1048576) : smallM m := by
 unfold szMatrix at h
 exact ⟨smallL_of (by omega), smallL_of (by omega)⟩
theorem smallY_of {l : LLayer} (h : szLayer l ≤ 1048576) : smallY l := by
 unfold szLayer at h
 exact ⟨by omega, by omega, smallM_of (by omega), smallM_of (by omega), smallM_of (by omega), smallM_of (by omega), smallM_of (by omega), smallM_of (by omega)⟩
theorem smallMod_of {m : LModel} (h : szModel m ≤ 1048576) : smallMod m := by
 unfold szModel szMergeS szLayerS szTurns at h
 refine ⟨by omega, smallL_of (by omega), by omega, fun i hi => smallY_of ?_, by omega, smallM_of (by omega), smallL_of (by omega), smallL_of (by omega)⟩
 have := sum_at (f := szLayer) hi
 omega
end Go.Bi
end
section
set_option maxRecDepth 20000
namespace Go.Bi
open Go.Proofs
open Go.Ai (wrap_i64)
variable {W0 : World}
structure LEngine where
 model : LModel
 store : LStore
 requests : List LRequest
instance : Inhabited LEngine := ⟨⟨default, default, default⟩⟩
end Go.Bi
end
section
namespace Go.Ai
open Go.WideShapes Go.RowKit
variable {P : Program} {W : World}
def fine (n : Nat) : Value → Bool
 | .int _ _ => true
 | .bool _ => true
 | .string _ => true
 | .nilFunc => true
 | .nilIface => true
 | .pointer none => true
 | .pointer (some a) => a.spot.isNone && decide (a.block < n)
 | .slice none l k => (l == 0) && (k == 0)
 | .slice (some a) l k => a.spot.isNone && (decide (a.block < n) && decide (l ≤ k))
 | _ => false
def odd : Value → Bool
 | .slice (some _) l k => (l == 0) && (k == 0)
 | _ => false
def clean (n : Nat) (v : Value) : Value := if odd v = true then .map none else if fine n v = true then v else hole
def h0 (W : World) : Heap := ⟨W.heap.size, fun b => if b < W.heap.size then (match W.heap[b]? with | some (.cells cs _ _) => some ⟨false, 0, cs.toList.map (clean W.heap.size)⟩ | _ => none) else none⟩
def ι0 (W : World) : Ren := ⟨fun b => if b < W.heap.size then some b else none, fun _ => none⟩
theorem fine_RS {v : Value} (h : fine W.heap.size v = true) : RS (ι0 W) v v := by
 unfold fine at h
 split at h <;> (try rfl)
 ·rename_i a
  simp at h
  obtain ⟨b, o, p⟩ := a
  obtain ⟨h1, h2⟩ := h
  simp only at h1 h2
  subst h1
  exact ⟨b, by simp [ι0, h2], rfl, rfl⟩
 ·simp at h; obtain ⟨rfl, rfl⟩ := h; exact ⟨rfl, rfl, rfl⟩
 ·rename_i a l k
  simp at h
  obtain ⟨b, o, p⟩ := a
  obtain ⟨h1, h2, h3⟩ := h
  simp only at h1 h2
  subst h1
  exact ⟨b, k, o, by simp [ι0, h2], rfl, h3, fun _ => rfl, fun N z hz => (by cases hz), rfl⟩
 ·cases h
theorem clean_RS (v : Value) : RS (ι0 W) (clean W.heap.size v) v := by
 unfold clean
 split
 ·rename_i h
  unfold odd at h
  split at h
  ·rename_i a l k
   simp at h; obtain ⟨rfl, rfl⟩ := h
   exact ⟨a, rfl⟩
  ·cases h
 ·split
  ·rename_i h; exact fine_RS h
  ·exact trivial
theorem sim0 : Sim P W (ι0 W) (h0 W) W := by
 refine ⟨fun b hb => ⟨by simp [ι0, hb], rfl, rfl⟩, Nat.le_refl _, fun b c hb => ?_, fun b c hb hm => ?_, fun b k hk => ?_, fun b k hk hw => ?_, fun b k hk _ => ?_, Nat.le_refl _, fun b b' c k k' hk hw => ?_, fun b k c hk hm => ?_, ⟨rfl, rfl, rfl⟩⟩
 ·simp only [ι0] at hb; split at hb
  ·cases hb; rename_i h; exact ⟨h, h⟩
  ·cases hb
 ·simp only [ι0] at hm; split at hm
  ·rename_i h; omega
  ·cases hm
 ·simp only [h0] at hk; split at hk
  ·rename_i h; exact ⟨b, by simp [ι0, h]⟩
  ·cases hk
 ·simp only [h0] at hk; split at hk
  ·split at hk
   ·cases hk; cases hw
   ·cases hk
  ·cases hk
 ·simp only [h0] at hk; split at hk
  ·rename_i h; exact h
  ·cases hk
 ·simp only [h0] at hk; split at hk
  ·split at hk
   ·cases hk; cases hw
   ·cases hk
  ·cases hk
 ·simp only [h0] at hk
  simp only [ι0] at hm
  split at hk
  ·rename_i hb
   rw [if_pos hb] at hm; cases hm
   split at hk
   ·rename_i cs ty fr hcs
    cases hk
    refine ⟨cs, ty, fr, hcs, by simp, fun j x hx => ?_, fun hw => by cases hw⟩
    simp only [List.getElem?_map, Array.getElem?_toList] at hx
    cases hy : cs[j]? with
    | none => rw [hy] at hx; cases hx
    | some y => rw [hy] at hx; simp at hx; subst hx; exact ⟨y, rfl, clean_RS y⟩
   ·cases hk
  ·cases hk
theorem sim_below {ι : Ren} {h : Heap} {w : World} (s : Sim P W ι h w) : Below W.heap.size W w := ⟨s.env.1, s.env.2.1, s.env.2.2, s.size, fun k hk => (s.base k hk).2.1⟩
theorem h0_at {a : Addr} {i : Nat} {v : Value} (hs : a.spot = none) (h : W.cell? (a.add i) = some v) :
  a.block < W.heap.size ∧ ∃ cs, (h0 W).get a.block = some ⟨false, 0, cs⟩ ∧ cs[a.off + i]? = some (clean W.heap.size v) := by
 obtain ⟨b, o, p⟩ := a
 simp only at hs
 subst hs
 have e : (⟨b, o, none⟩ : Addr).add i = ⟨b, o + i, none⟩ := by
  unfold Addr.add; split
  ·rename_i hi; simp [hi]
  ·rfl
 rw [e] at h
 simp only [World.cell?] at h
 split at h
 ·rename_i cs ty fr hcs
  simp only [Option.isSome_none, Bool.false_eq_true, if_false] at h
  have hb : b < W.heap.size := by
   by_cases hb : b < W.heap.size
   ·exact hb
   ·rw [Array.getElem?_eq_none (by omega)] at hcs; cases hcs
  refine ⟨hb, cs.toList.map (clean W.heap.size), ?_, ?_⟩
  ·simp only [h0, if_pos hb]; rw [hcs]
  ·simp only [List.getElem?_map, Array.getElem?_toList, h, Option.map_some]
 ·cases h
end Go.Ai
end
