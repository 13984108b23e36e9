/- Own lemmas that the theorem of this claim needs: the abstract machine and walks of functions. -/
import Derived.Test.YtjofbadmkigkjaaGreatReLawAJ
set_option linter.unusedSimpArgs false
set_option linter.unusedVariables false
open Nat renaming reduceBEq → rq1, reduceAdd → rq2, reduceLeDiff → rq3, reduceMul → rq4
open Int renaming reduceLE → rq5, reduceLT → rq6, reduceBEq → rq7
section
set_option maxRecDepth 20000
namespace Go.Bi
open Go.Proofs
open Go.Ai (wrap_i64 wrap_u8)
variable {W0 : World} {P : Program}
set_option maxHeartbeats 4000000
theorem implVocab_ok {F : Nat → Adr} {c : LModel} {h : H2} (hm : c.merges.length ≤ 1048576) : PW Tryz.prog W0 60 [.st (xModel F c)] h (fun r => r = .raw (.int .i64 (256 + c.merges.length))) := by
 refine PW.scalar ?_
 refine begins [[0], [1]] Tryz.func60 rfl (rs := [.tmp 2]) rfl rfl ?_
 intro wf
 have w : IntKind.i64.wrap (256 + (c.merges.length : Int)) = 256 + c.merges.length := by rw [wrap_i64] <;> omega
 repeat (first | rw [ko] | rw [kr] | simp -dsimp -implicitDefEqProofs only [go_sem, w])
 exact ⟨le_push (H2.le.refl _), ⟨_, rfl⟩, rfl⟩
theorem specVocab_ok {F : Nat → Adr} {c : LModel} {h : H2} (hm : c.merges.length ≤ 1048576) : PW Tryz.prog W0 138 [.st (xModel F c)] h (fun r => r = .raw (.int .i64 (256 + c.merges.length))) := by
 refine PW.scalar ?_
 refine begins [[0], [1]] Tryz.func138 rfl (rs := [.tmp 2]) rfl rfl ?_
 intro wf
 have w : IntKind.i64.wrap (256 + (c.merges.length : Int)) = 256 + c.merges.length := by rw [wrap_i64] <;> omega
 repeat (first | rw [ko] | rw [kr] | simp -dsimp -implicitDefEqProofs only [go_sem, w])
 exact ⟨le_push (H2.le.refl _), ⟨_, rfl⟩, rfl⟩
def tokOk (c : LModel) (t : Int) : Bool := inI t 0 (255 + c.merges.length)
theorem l18Token_ok {F : Nat → Adr} {c : LModel} {t : Int} {h : H2} (hm : c.merges.length ≤ 1048576) : PW Tryz.prog W0 160 [.st (xModel F c), .raw (.int .i64 t)] h (fun r => r = .raw (.bool (tokOk c t))) := by
 refine PW.scalar ?_
 refine begins [[0, 1], [1, 2]] Tryz.func160 rfl (rs := [.tmp 4]) rfl rfl ?_
 intro wf
 have w : IntKind.i64.wrap (256 + (c.merges.length : Int) - 1) = 255 + c.merges.length := by rw [wrap_i64] <;> omega
 repeat (first | rw [ko] | rw [kr] | simp -dsimp -implicitDefEqProofs only [go_sem])
 refine pw_intro (specVocab_ok (F := F) hm) ?_
 rintro _ n1 hn1 rfl
 repeat (first | rw [ko] | rw [kr] | simp -dsimp -implicitDefEqProofs only [go_sem, w])
 refine wz_intro l01In_ok ?_
 rintro _ h2 ⟨rfl, rfl⟩
 repeat (first | rw [ko] | rw [kr] | simp -dsimp -implicitDefEqProofs only [go_sem])
 exact ⟨zale, ⟨_, rfl⟩, rfl⟩
def needA (n : Int) : Int := if n ≤ 0 then 0 else IntKind.i64.wrap (IntKind.i64.wrap ((IntKind.i64.wrap (n - 1)).tdiv 4) + 1)
theorem implNeedA_ok {n : Int} {h : H2} : WC2 Tryz.prog W0 61 [.raw (.int .i64 n)] h (fun v h' => v = .raw (.int .i64 (needA n)) ∧ h' = h) := by
 refine begins [[0], [0], [], [0]] Tryz.func61 rfl (rs := [.tmp 2]) rfl rfl ?_
 intro wf
 have w4 : ((4 : Int) == 0) = false := by decide
 unfold needA
 by_cases h1 : n ≤ 0
 ·repeat (first | rw [ko] | rw [kr] | simp -dsimp -implicitDefEqProofs only [go_sem, h1])
  exact ⟨by rw [if_pos h1], rfl⟩
 ·repeat (first | rw [ko] | rw [kr] | simp -dsimp -implicitDefEqProofs only [go_sem, h1, w4])
  exact ⟨by rw [if_neg h1], rfl⟩
theorem specNeedA_ok {n : Int} {h : H2} : WC2 Tryz.prog W0 161 [.raw (.int .i64 n)] h (fun v h' => v = .raw (.int .i64 (needA n)) ∧ h' = h) := by
 refine begins [[0], [0], [], [0]] Tryz.func161 rfl (rs := [.tmp 2]) rfl rfl ?_
 intro wf
 have w4 : ((4 : Int) == 0) = false := by decide
 unfold needA
 by_cases h1 : n ≤ 0
 ·repeat (first | rw [ko] | rw [kr] | simp -dsimp -implicitDefEqProofs only [go_sem, h1])
  exact ⟨by rw [if_pos h1], rfl⟩
 ·repeat (first | rw [ko] | rw [kr] | simp -dsimp -implicitDefEqProofs only [go_sem, h1, w4])
  exact ⟨by rw [if_neg h1], rfl⟩
def admitI (e : LEngine) (p : List Int) (c : LConfig) : Int :=
 if cfgOk c = true ∧ allI p 0 (255 + e.model.merges.length) = true then
  (if p.length = 0 then 1 else if e.model.context < (p.length : Int) + c.new then 2 else if (e.store.refs.length : Int) < needA ((p.length : Int) + c.new) then 3 else if (10 : Int) ≤ e.requests.length then 4 else 0)
 else 5
theorem cfg_newA {c : LConfig} (h : cfgOk c = true) : 1 ≤ c.new ∧ c.new ≤ 24 := by
 unfold cfgOk at h
 simp only [Bool.and_eq_true] at h
 exact inI_t h.2.2.1
theorem implAdmit_ok {F F' : Nat → Adr} {f : Adr} {e : LEngine} {p : List Int} {c : LConfig} {h : H2} (hm : e.model.merges.length ≤ 1048576) (hp : p.length ≤ 1048576) (hc : c.stops.length ≤ 9223372036854775807) :
  PW Tryz.prog W0 17 [.st (xEngine F e), .sl f 1 (ints p), .st (xConfig F' c)] h (fun r => r = .raw (.int .i64 (admitI e p c))) := by
 refine PW.scalar ?_
 refine begins [[0, 1, 2], [1, 3, 5], [1, 3, 5, 7], [], [1, 3, 7], [], [3, 7], [], [3, 7], [], [3], [], []] Tryz.func17 rfl (rs := [.tmp 6]) rfl rfl ?_
 intro wf
 have w1 : IntKind.i64.wrap (256 + (e.model.merges.length : Int) - 1) = 255 + e.model.merges.length := by rw [wrap_i64] <;> omega
 unfold admitI
 repeat (first | rw [ko] | rw [kr] | simp -dsimp -implicitDefEqProofs only [go_sem, rq1])
 refine pw_intro (implConfigOk_ok (F := F') hc) ?_
 rintro _ n1 hn1 rfl
 cases h1 : cfgOk c
 ·repeat (first | rw [ko] | rw [kr] | simp -dsimp -implicitDefEqProofs only [go_sem, rq1])
  exact ⟨zale, ⟨_, rfl⟩, by simp⟩
 have hnew := cfg_newA h1
 have w2 : IntKind.i64.wrap ((p.length : Int) + c.new) = (p.length : Int) + c.new := by rw [wrap_i64] <;> omega
 repeat (first | rw [ko] | rw [kr] | simp -dsimp -implicitDefEqProofs only [go_sem, rq1, hoo])
 refine pw_intro (implVocab_ok (F := F) (c := e.model) hm) ?_
 rintro _ n2 hn2 rfl
 repeat (first | rw [ko] | rw [kr] | simp -dsimp -implicitDefEqProofs only [go_sem, rq1, w1])
 refine pw_intro (allIn_ok (by omega)) ?_
 rintro _ n3 hn3 rfl
 cases h2 : allI p 0 (255 + (e.model.merges.length : Int))
 ·repeat (first | rw [ko] | rw [kr] | simp -dsimp -implicitDefEqProofs only [go_sem, rq1])
  exact ⟨zale, ⟨_, rfl⟩, by simp⟩
 by_cases h3 : (p.length : Int) = 0
 ·repeat (first | rw [ko] | rw [kr] | simp -dsimp -implicitDefEqProofs only [go_sem, rq1, h3])
  exact ⟨zale, ⟨_, rfl⟩, by rw [if_pos ⟨rfl, rfl⟩, if_pos (by omega)]⟩
 have h3n : ¬ p.length = 0 := by omega
 by_cases h4 : e.model.context < (p.length : Int) + c.new
 ·repeat (first | rw [ko] | rw [kr] | simp -dsimp -implicitDefEqProofs only [go_sem, rq1, h3, w2, h4])
  exact ⟨zale, ⟨_, rfl⟩, by rw [if_pos ⟨rfl, rfl⟩, if_neg h3n, if_pos h4]⟩
 repeat (first | rw [ko] | rw [kr] | simp -dsimp -implicitDefEqProofs only [go_sem, rq1, h3, w2, h4])
 refine dq_intro [(0, []), (2, []), (3, []), (4, []), (5, []), (1, [4]), (6, []), (7, [])] (by kernel_rfl) ?_
 repeat (first | rw [ko] | rw [kr] | simp -dsimp -implicitDefEqProofs only [go_sem, rq1])
 refine wz_intro implNeedA_ok ?_
 rintro _ h5 ⟨rfl, rfl⟩
 rw [kq]
 refine ⟨zsm, ?_⟩
 by_cases h5 : (e.store.refs.length : Int) < needA ((p.length : Int) + c.new)
 ·repeat (first | rw [ko] | rw [kr] | simp -dsimp -implicitDefEqProofs only [go_sem, h5])
  exact ⟨zale, ⟨_, rfl⟩, by rw [if_pos ⟨rfl, rfl⟩, if_neg h3n, if_neg h4, if_pos h5]⟩
 by_cases h6 : (10 : Int) ≤ e.requests.length
 ·repeat (first | rw [ko] | rw [kr] | simp -dsimp -implicitDefEqProofs only [go_sem, rq1, h5, h6])
  exact ⟨zale, ⟨_, rfl⟩, by rw [if_pos ⟨rfl, rfl⟩, if_neg h3n, if_neg h4, if_neg h5, if_pos h6]⟩
 ·repeat (first | rw [ko] | rw [kr] | simp -dsimp -implicitDefEqProofs only [go_sem, rq1, h5, h6])
  exact ⟨zale, ⟨_, rfl⟩, by rw [if_pos ⟨rfl, rfl⟩, if_neg h3n, if_neg h4, if_neg h5, if_neg h6]⟩
theorem specAdmit_ok {F F' : Nat → Adr} {f : Adr} {e : LEngine} {p : List Int} {c : LConfig} {h : H2} (hm : e.model.merges.length ≤ 1048576) (hp : p.length ≤ 1048576) (hc : c.stops.length ≤ 9223372036854775807) :
    PW Tryz.prog W0 109 [.st (xEngine F e), .sl f 1 (ints p), .st (xConfig F' c)] h (fun r => r = .raw (.int .i64 (admitI e p c))) := by
  refine PW.scalar ?_
  refine begins [[0, 1, 2], [1, 3, 5], [], [1, 3, 5], [1, 3, 5, 7], [1, 3, 5, 7], [1, 3, 5, 7], [], [1, 3, 5], [], [1, 3, 5], [], [1, 3, 5], [], [3], [], []] Tryz.func109 rfl (rs := [.tmp 6]) rfl rfl ?_
  intro wf
  unfold admitI
  repeat (first | rw [ko] | rw [kr] | simp -dsimp -implicitDefEqProofs only [go_sem, rq1])
  refine pw_intro (specConfigOk_ok (F := F') hc) ?_
  rintro _ n1 hn1 rfl
  cases h1 : cfgOk c
  · repeat (first | rw [ko] | rw [kr] | simp -dsimp -implicitDefEqProofs only [go_sem])
    exact ⟨zale, ⟨_, rfl⟩, by simp⟩
  have hnew := cfg_newA h1
  have w2 : IntKind.i64.wrap ((p.length : Int) + c.new) = (p.length : Int) + c.new := by rw [wrap_i64] <;> omega
  repeat (first | rw [ko] | rw [kr] | simp -dsimp -implicitDefEqProofs only [go_sem, rq1, hoo])
  simp only [hn_push] at hn1
  refine lz_keep [1, 3, 5] (fun m s h' => ∃ (i n : Nat), h' = ((h.push ⟨17, xEngine F e⟩).push ⟨4, xConfig F' c⟩).up n ∧ hn h .mk + 2 ≤ n ∧ look s 7 .mk = .raw (.int .i64 (i : Nat)) ∧ m + i = p.length ∧ ∀ j, j < i → tokOk e.model (p.getD j default) = true) p.length ?_ ?_
  · exact ⟨0, n1, rfl, by omega, zsm, by omega, fun j hj => by omega⟩
  · rintro m s h' hks ⟨i, n, rfl, hnn, e7, hmi, hpre⟩
    simp -dsimp -implicitDefEqProofs only [go_sem, rq1] at hks
    by_cases h3 : (i : Int) < (p.length : Int)
    · have hi : i < p.length := by omega
      repeat (first | rw [ko] | rw [kr] | simp -dsimp -implicitDefEqProofs only [go_sem, rq1, hks, e7, h3])
      refine dq_intro [(0, []), (1, []), (2, []), (3, []), (4, []), (5, []), (6, []), (7, [])] (by kernel_rfl) ?_
      repeat (first | rw [ko] | rw [kr] | simp -dsimp -implicitDefEqProofs only [go_sem, rq1, hi, hoo])
      refine pw_intro (l18Token_ok (F := F) (c := e.model) hm) ?_
      rintro _ n2 hn2 rfl
      simp only [hn_up] at hn2
      cases h4 : tokOk e.model (p.getD i default)
      · repeat (first | rw [ko] | rw [kr] | simp -dsimp -implicitDefEqProofs only [go_sem])
        refine ⟨zale, ⟨_, rfl⟩, ?_⟩
        rw [if_neg]
        rintro ⟨_, hx⟩
        rw [allI, List.all_eq_true] at hx
        have := hx _ (getD_mem hi)
        rw [show inI (p.getD i default) 0 (255 + (e.model.merges.length : Int)) = tokOk e.model (p.getD i default) from rfl, h4] at this
        cases this
      · repeat (first | rw [ko] | rw [kr] | simp -dsimp -implicitDefEqProofs only [go_sem, rq1, wrap_succ hi (by omega)])
        refine nx_keep (m - 1) (by omega) zsm ⟨i + 1, n2, rfl, by omega, zsm, by omega, fun j hj => ?_⟩
        by_cases hji : j = i
        · subst hji; exact h4
        · exact hpre j (by omega)
    · have hall : allI p 0 (255 + (e.model.merges.length : Int)) = true := by
        rw [allI, List.all_eq_true]
        intro x hx
        obtain ⟨j, hj, rfl⟩ := List.getElem_of_mem hx
        have := hpre j (by omega)
        rw [List.getD_eq_getElem?_getD, List.getElem?_eq_getElem hj] at this
        exact this
      rw [if_pos ⟨rfl, hall⟩]
      repeat (first | rw [ko] | rw [kr] | simp -dsimp -implicitDefEqProofs only [go_sem, rq1, hks, e7, h3])
      by_cases h5 : (p.length : Int) = 0
      · repeat (first | rw [ko] | rw [kr] | simp -dsimp -implicitDefEqProofs only [go_sem, h5])
        exact ⟨zale, ⟨_, rfl⟩, by rw [if_pos (by omega)]⟩
      rw [if_neg (by omega)]
      by_cases h6 : e.model.context < (p.length : Int) + c.new
      · repeat (first | rw [ko] | rw [kr] | simp -dsimp -implicitDefEqProofs only [go_sem, rq1, h5, w2, h6, hoo])
        exact ⟨zale, ⟨_, rfl⟩, by rw [if_pos h6]⟩
      repeat (first | rw [ko] | rw [kr] | simp -dsimp -implicitDefEqProofs only [go_sem, rq1, h5, w2, h6, hoo])
      refine dq_intro [(0, []), (1, []), (2, []), (3, []), (4, []), (6, []), (7, []), (8, []), (9, []), (5, [8]), (10, [])] (by kernel_rfl) ?_
      repeat (first | rw [ko] | rw [kr] | simp -dsimp -implicitDefEqProofs only [go_sem, rq1, w2, hoo])
      refine wz_intro specNeedA_ok ?_
      rintro _ hx ⟨rfl, rfl⟩
      rw [kq]
      refine ⟨zsm, ?_⟩
      by_cases h7 : (e.store.refs.length : Int) < needA ((p.length : Int) + c.new)
      · repeat (first | rw [ko] | rw [kr] | simp -dsimp -implicitDefEqProofs only [go_sem, h7])
        exact ⟨zale, ⟨_, rfl⟩, by rw [if_neg h6, if_pos h7]⟩
      by_cases h8 : (10 : Int) ≤ e.requests.length
      · repeat (first | rw [ko] | rw [kr] | simp -dsimp -implicitDefEqProofs only [go_sem, rq1, h7, h8])
        exact ⟨zale, ⟨_, rfl⟩, by rw [if_neg h6, if_neg h7, if_pos h8]⟩
      · repeat (first | rw [ko] | rw [kr] | simp -dsimp -implicitDefEqProofs only [go_sem, rq1, h7, h8])
        exact ⟨zale, ⟨_, rfl⟩, by rw [if_neg h6, if_neg h7, if_neg h8]⟩
end Go.Bi
end
section
set_option maxRecDepth 20000
namespace Go.Bi
open Go.Proofs
open Go.Ai (plainS)
variable {W0 : World} {P : Program}
inductive Ch {α : Type} (H : α → Int → Int → Prop) : Int → List α → Int → Prop
 | nil {k : Int} : Ch H k [] k
 | cons {e : α} {es : List α} {a b c : Int} : H e a b → 0 ≤ b → Ch H b es c → Ch H a (e :: es) c
theorem Ch.snoc {α : Type} {H : α → Int → Int → Prop} {e : α} : ∀ {es : List α} {a b c : Int}, Ch H a es b → H e b c → 0 ≤ c → Ch H a (es ++ [e]) c
 | [], _, _, _, .nil, h, h0 => .cons h h0 .nil
 | _ :: _, _, _, _, .cons h1 h2 h3, h, h0 => .cons h1 h2 (h3.snoc h h0)
theorem Ch.step {α : Type} [Inhabited α] {H : α → Int → Int → Prop} {es : List α} {i : Nat} {a c : Int} (h : Ch H a (es.drop i) c) (hi : i < es.length) : ∃ b, H (es.getD i default) a b ∧ 0 ≤ b ∧ Ch H b (es.drop (i + 1)) c := by
 rw [List.drop_eq_getElem_cons hi] at h
 cases h with
 | cons h1 h2 h3 =>
  refine ⟨_, ?_, h2, h3⟩
  rw [List.getD_eq_getElem?_getD, List.getElem?_eq_getElem hi]; exact h1
theorem Ch.done {α : Type} {H : α → Int → Int → Prop} {es : List α} {i : Nat} {a c : Int} (h : Ch H a (es.drop i) c) (hi : es.length ≤ i) : a = c := by
 rw [List.drop_of_length_le hi] at h
 cases h; rfl
theorem OT.inv {g : H2} {bs : List Nat} {x : X} {z : Nat} {es : List (List T)} (o : OT g bs x (.l z es)) :
  (bs = [] ∧ x = .raw (.slice none 0 0) ∧ es = []) ∨ ∃ b bs' cs, bs = b :: bs' ∧ x = .raw (.slice (some ⟨b, 0, none⟩) es.length es.length) ∧ g.get b = some ⟨z, cs⟩ ∧ cs.length = es.length * z ∧ (∀ e ∈ es, e.length = z) ∧ OTs g bs' cs es.flatten := by
 generalize ht : T.l z es = t at o
 cases o with
 | raw => cases ht
 | nil => simp only [T.l.injEq] at ht; obtain ⟨rfl, rfl⟩ := ht; exact .inl ⟨rfl, rfl, rfl⟩
 | row h1 h2 h3 h4 h5 =>
  simp only [T.l.injEq] at ht
  obtain ⟨rfl, rfl⟩ := ht
  subst h3
  exact .inr ⟨_, _, _, rfl, rfl, h1, h2, h4, h5⟩
structure Cur2 (h0 : H2) (b z : Nat) (bs : List Nat) (g : H2) (p : Nat) (A B : List X) (bA bB : List Nat) (TA TB : List T) : Prop where
 blk : hg g b .mk = some ⟨z, A ++ B⟩
 len : A.length = p
 all : bs = bA ++ bB
 oA : OTs g bA A TA
 oB : OTs g bB B TB
 nd : (b :: bs).Nodup
 bd : ∀ x ∈ b :: bs, x < hn h0 .mk
 le : hn h0 .mk ≤ hn g .mk
 fr : ∀ x, x < hn h0 .mk → x ≠ b → x ∉ bs → g.get x = h0.get x
def CurA (h0 : H2) (b z : Nat) (bs : List Nat) (g : H2) (p : Nat) (TA TB : List T) : Prop := ∃ A B bA bB, Cur2 h0 b z bs g p A B bA bB TA TB
theorem Cur2.lt {h0 g : H2} {b z p : Nat} {bs bA bB : List Nat} {A B : List X} {TA TB : List T} (c : Cur2 h0 b z bs g p A B bA bB TA TB) : b < hn g .mk := Nat.lt_of_lt_of_le (c.bd b (by simp)) c.le
theorem ap_mid {A B : List X} {y : X} : (A ++ y :: B)[A.length]? = some y := by simp
theorem wrt_mid {A B : List X} {y v : X} : wrtL (A ++ y :: B) A.length [v] = some ((A ++ [v]) ++ B) := by
 simp only [wrtL, List.length_cons, List.length_nil, List.length_append]
 rw [if_pos (by omega)]
 simp
theorem set_same {g : H2} {b z : Nat} {cs cs' : List X} (h : hg (g.set b ⟨z, cs⟩) b .mk = some ⟨z, cs'⟩) : cs = cs' := by
 rw [hg_set] at h
 simp [hk] at h
 exact h
theorem CurA.put {h0 g : H2} {b z p : Nat} {bs : List Nat} {TA TB : List T} {v : Value} (c : CurA h0 b z bs g p TA (.v v :: TB)) :
  ∃ cs, hg g b .mk = some ⟨z, cs⟩ ∧ b < hn g .mk ∧ (∃ w, cs[p]? = some (.raw w)) ∧ ∀ w : Value, plainS w = true → ∃ cs', wrtL cs p [.raw w] = some cs' ∧ CurA h0 b z bs (g.set b ⟨z, cs'⟩) (p + 1) (TA ++ [.v w]) TB := by
 obtain ⟨A, B, bA, bB, c⟩ := c
 obtain ⟨ys, rfl, oB⟩ := OTs.headv c.oB
 have hl := c.len
 subst hl
 refine ⟨_, c.blk, c.lt, ⟨_, ap_mid⟩, fun w hw => ⟨_, wrt_mid, A ++ [.raw w], ys, bA, bB, ?_⟩⟩
 have hb : b ∉ bs := (List.nodup_cons.1 c.nd).1
 have hbA : ∀ x ∈ bA, x ≠ b := fun x hx e => hb (by rw [c.all, ← e]; simp [hx])
 have hbB : ∀ x ∈ bB, x ≠ b := fun x hx e => hb (by rw [c.all, ← e]; simp [hx])
 refine ⟨?_, by simp, c.all, ?_, ?_, c.nd, c.bd, c.le, fun x h1 h2 h3 => ?_⟩
 ·rw [hg_set]; simp [hk]
 ·have o1 : OTs (g.set b ⟨z, (A ++ [X.raw w]) ++ ys⟩) bA A TA := c.oA.frame fun x hx => by simp only [H2.set]; rw [if_neg (hbA x hx)]
  have := o1.append (OTs.one (OT.raw (g := g.set b ⟨z, (A ++ [X.raw w]) ++ ys⟩) hw))
  simpa using this
 ·exact oB.frame fun x hx => by simp only [H2.set]; rw [if_neg (hbB x hx)]
 ·simp only [H2.set]; rw [if_neg h2]; exact c.fr x h1 h2 h3
theorem CurA.row {h0 g : H2} {b z p z' : Nat} {bs : List Nat} {TA TB : List T} {es : List (List T)} (c : CurA h0 b z bs g p TA (.l z' es :: TB)) :
  ∃ cs y bb, hg g b .mk = some ⟨z, cs⟩ ∧ b < hn g .mk ∧ cs[p]? = some y ∧ OT g bb y (.l z' es) ∧ Bl 0 (hn g .mk) bb ∧
   ∀ g' es', OT g' bb y (.l z' es') → hn g .mk ≤ hn g' .mk → (∀ x, x < hn g .mk → x ∉ bb → g'.get x = g.get x) → CurA h0 b z bs g' (p + 1) (TA ++ [.l z' es']) TB := by
 obtain ⟨A, B, bA, bB, c⟩ := c
 obtain ⟨bb, bR, y, ys, rfl, rfl, o, oB⟩ := OTs.head c.oB
 have hl := c.len
 subst hl
 have hnd := List.nodup_cons.1 c.nd
 rw [c.all] at hnd
 have h1 := List.nodup_append.1 hnd.2
 have h2 := List.nodup_append.1 h1.2.1
 have hlt : ∀ x ∈ bs, x < hn g .mk := fun x hx => Nat.lt_of_lt_of_le (c.bd x (by simp [hx])) c.le
 have hm : ∀ x ∈ bA ++ (bb ++ bR), x < hn g .mk := fun x hx => hlt x (by rw [c.all]; exact hx)
 refine ⟨_, y, bb, c.blk, c.lt, ap_mid, o, ⟨h2.1, fun x hx => ⟨Nat.zero_le _, hm x (by simp [hx])⟩⟩, fun g' es' o' hn' fr' => ⟨A ++ [y], ys, bA ++ bb, bR, ?_⟩⟩
 have kb : g'.get b = g.get b := fr' b c.lt fun hx => hnd.1 (by simp [hx])
 refine ⟨?_, by simp, by rw [c.all, List.append_assoc], ?_, ?_, c.nd, c.bd, Nat.le_trans c.le hn', fun x q1 q2 q3 => ?_⟩
 ·show g'.get b = _
  rw [kb]
  have := c.blk
  rw [List.append_assoc]
  exact this
 ·have o1 : OTs g' bA A TA := c.oA.frame fun x hx => fr' x (hm x (by simp [hx])) fun hx' => h1.2.2 x hx x (by simp [hx']) rfl
  have := o1.append (OTs.one o')
  simpa using this
 ·exact oB.frame fun x hx => fr' x (hm x (by simp [hx])) fun hx' => h2.2.2 x hx' x hx rfl
 ·rw [fr' x (Nat.lt_of_lt_of_le q1 c.le) fun hx => q3 (by rw [c.all]; simp [hx])]
  exact c.fr x q1 q2 q3
theorem CurA.cast {h0 g : H2} {b z p p' : Nat} {bs : List Nat} {TA TB TA' TB' : List T} (c : CurA h0 b z bs g p TA TB) (hp : p = p') (h1 : TA = TA') (h2 : TB = TB') : CurA h0 b z bs g p' TA' TB' := by
 subst hp; subst h1; subst h2; exact c
theorem CurA.start {h : H2} {N b z : Nat} {bs' : List Nat} {cs : List X} {ts : List T} (hb : h.get b = some ⟨z, cs⟩) (o : OTs h bs' cs ts) (bl : Bl N (hn h .mk) (b :: bs')) : CurA h b z bs' h 0 [] ts :=
 ⟨[], cs, [], bs', by exact hb, rfl, rfl, .nil, o, bl.1, fun x hx => (bl.2 x hx).2, Nat.le_refl _, fun _ _ _ _ => rfl⟩
theorem CurA.full {h0 g : H2} {b z p : Nat} {bs : List Nat} {es : List (List T)} (c : CurA h0 b z bs g p es.flatten []) (hp : p = es.length * z) (hz : ∀ e ∈ es, e.length = z) :
  OT g (b :: bs) (.raw (.slice (some ⟨b, 0, none⟩) es.length es.length)) (.l z es) ∧ hn h0 .mk ≤ hn g .mk ∧ ∀ x, x < hn h0 .mk → x ∉ b :: bs → g.get x = h0.get x := by
 obtain ⟨A, B, bA, bB, c⟩ := c
 obtain ⟨rfl, rfl⟩ := OTs.tail0 c.oB
 have hall := c.all
 rw [List.append_nil] at hall
 subst hall
 refine ⟨.row (by have := c.blk; rw [List.append_nil] at this; exact this) (by rw [c.len, hp]) rfl hz c.oA, c.le, fun x h1 h2 => c.fr x h1 (fun e => h2 (by simp [e])) fun hx => h2 (by simp [hx])⟩
end Go.Bi
end
section
set_option maxRecDepth 20000
namespace Go.Bi
open Go.Proofs
open Go.Ai (wrap_i64 wrap_u8)
variable {W0 : World} {P : Program}
set_option maxHeartbeats 4000000
def HhIntS (W0 : World) (c : List Int) (a b : Int) : Prop := ∀ f g, PW Tryz.prog W0 177 [.sl f 1 (ints c), .raw (.int .i64 a)] g (fun y => y = .raw (.int .i64 b))
def HhIntSS (W0 : World) (c : List (List Int)) (a b : Int) : Prop := ∀ f g, PW Tryz.prog W0 175 [.sl f 1 (rIntSS c), .raw (.int .i64 a)] g (fun y => y = .raw (.int .i64 b))
theorem heldIntSS_ch {c : List (List Int)} {k0 k1 : Int} (h : Ch (HhIntS W0) k0 c k1) (hl : c.length ≤ 4611686018427387904) : HhIntSS W0 c k0 k1 := by
 intro f g
 refine PW.scalar ?_
 refine begins [[0, 1], [0, 1], [0, 1, 5], [0, 1, 5], [0, 1, 5], [0, 1, 5], [], [1]] Tryz.func175 rfl (rs := [.tmp 4]) rfl rfl ?_
 intro wf
 repeat (first | rw [ko] | rw [kr] | simp -dsimp -implicitDefEqProofs only [go_sem])
 refine lz_keep [0] (fun m e h' => ∃ (i : Nat) (a : Int), g.le h' ∧ look e 5 .mk = .raw (.int .i64 (i : Nat)) ∧ look e 1 .mk = .raw (.int .i64 a) ∧ m + i = c.length ∧ Ch (HhIntS W0) a (c.drop i) k1) c.length ?_ ?_
 ·exact ⟨0, k0, H2.le.refl _, zsm, zsm, by omega, h⟩
 rintro m e h' hks ⟨i, a, hle, e5, e1, hm, hc⟩
 simp -dsimp -implicitDefEqProofs only [go_sem, rq1] at hks
 by_cases q1 : (i : Int) < (c.length : Int)
 ·have q2 : i < c.length := by omega
  obtain ⟨b, hb, h0, hc'⟩ := hc.step q2
  have w1 := wrap_succ q2 (by omega)
  have q3 : ¬ b < 0 := by omega
  repeat (first | rw [ko] | rw [kr] | simp -dsimp -implicitDefEqProofs only [go_sem, rq1, hks, e5, e1, q1, q2])
  refine pw_intro (hb _ _) ?_
  rintro _ n hn1 rfl
  repeat (first | rw [ko] | rw [kr] | simp -dsimp -implicitDefEqProofs only [go_sem, rq1, q3, w1])
  exact nx_keep (m - 1) (by omega) zsm ⟨i + 1, b, le_up hle hn1, zsm, zsm, by omega, hc'⟩
 ·repeat (first | rw [ko] | rw [kr] | simp -dsimp -implicitDefEqProofs only [go_sem, rq1, hks, e5, e1, q1])
  exact ⟨hle, ⟨_, rfl⟩, by rw [hc.done (by omega)]⟩
theorem markIntSS_tree {N : Nat} {bs : List Nat} {v : X} {zs : List (List Int)} {h : H2} {k0 : Int} (o : OT h bs v (.l 1 (rIntSS zs))) (bl : Bl N (hn h .mk) bs) (hk : 0 ≤ k0 ∧ k0 + 64 * szIntSS zs ≤ 4611686018427387904) :
  WC2 Tryz.prog W0 88 [v, .raw (.int .i64 k0)] h (fun r h' => ∃ (k1 : Int) (c' : List (List Int)), r = .raw (.int .i64 k1) ∧ k0 ≤ k1 ∧ k1 ≤ k0 + 64 * szIntSS zs ∧ OT h' bs v (.l 1 (rIntSS c')) ∧ HhIntSS W0 c' k0 k1 ∧ hn h .mk ≤ hn h' .mk ∧ ∀ b, b < hn h .mk → b ∉ bs → h'.get b = h.get b) := by
 have hE : ∀ a, (eIntS a).length = 1 := fun a => rfl
 have hsz : (zs.length : Int) ≤ szIntSS zs := by unfold szIntSS; omega
 rcases o.inv with ⟨rfl, rfl, he⟩ | ⟨b, bs', cs, rfl, rfl, hb, hcs, hz, oc⟩
 ·have hzs : zs = [] := by cases zs <;> simp_all [rIntSS]
  subst hzs
  refine begins [[0, 1], [0, 1], [0, 1, 5], [0, 1, 5], [0, 1, 5], [1]] Tryz.func88 rfl (rs := [.tmp 4]) rfl rfl ?_
  intro wf
  repeat (first | rw [ko] | rw [kr] | simp -dsimp -implicitDefEqProofs only [go_sem])
  refine lz_keep [0] (fun m e h' => h' = h ∧ look e 5 .mk = .raw (.int .i64 0) ∧ look e 1 .mk = .raw (.int .i64 k0)) 0 ?_ ?_
  ·exact ⟨rfl, zsm, zsm⟩
  rintro m e h' hks ⟨rfl, e5, e1⟩
  simp -dsimp -implicitDefEqProofs only [go_sem, rq1] at hks
  have q1 : ¬ ((0 : Int) < ((0 : Nat) : Int)) := by decide
  repeat (first | rw [ko] | rw [kr] | simp -dsimp -implicitDefEqProofs only [go_sem, rq1, rq6, hks, e5, e1])
  exact ⟨k0, [], rfl, by omega, by omega, o, heldIntSS_ch .nil (by decide), Nat.le_refl _, fun _ _ _ => rfl⟩
 ·have hlen : (rIntSS zs).length = zs.length := rIntSS_len
  rw [hlen]
  refine begins [[0, 1], [0, 1], [0, 1, 5], [0, 1, 5], [0, 1, 5], [1]] Tryz.func88 rfl (rs := [.tmp 4]) rfl rfl ?_
  intro wf
  repeat (first | rw [ko] | rw [kr] | simp -dsimp -implicitDefEqProofs only [go_sem])
  refine lz_keep [0] (fun m e h' => ∃ (i : Nat) (a : Int) (c' : List (List Int)), look e 5 .mk = .raw (.int .i64 (i : Nat)) ∧ look e 1 .mk = .raw (.int .i64 a) ∧ m + i = zs.length ∧ c'.length = i ∧ CurA h b 1 bs' h' i ((c'.map eIntS).flatten) (((zs.drop i).map eIntS).flatten) ∧ Ch (HhIntS W0) k0 c' a ∧ k0 ≤ a ∧ a ≤ k0 + 64 * (i + sumN szIntS (zs.take i))) zs.length ?_ ?_
  ·exact ⟨0, k0, [], zsm, zsm, by omega, rfl, CurA.start hb oc bl, .nil, by omega, by omega⟩
  rintro m e h' hks ⟨i, a, c', e5, e1, hm, hcl, cur, ch, lo, hi⟩
  simp -dsimp -implicitDefEqProofs only [go_sem, rq1] at hks
  by_cases q1 : (i : Int) < (zs.length : Int)
  ·have q2 : i < zs.length := by omega
   have hd : zs.drop i = zs.getD i default :: zs.drop (i + 1) := by rw [List.drop_eq_getElem_cons q2, List.getD_eq_getElem?_getD, List.getElem?_eq_getElem q2]; rfl
   have hst : sumN szIntS (zs.take (i + 1)) = sumN szIntS (zs.take i) + (zs.getD i default).length := sumN_take (f := szIntS) q2
   have hle : sumN szIntS (zs.take (i + 1)) ≤ sumN szIntS zs := by
    have := sumN_append (f := szIntS) (l := zs.take (i + 1)) (m := zs.drop (i + 1))
    rw [List.take_append_drop] at this
    omega
   have hsz2 : szIntSS zs = zs.length + sumN szIntS zs := rfl
   have w1 := wrap_succ q2 (by omega)
   obtain ⟨cs2, y, bb, hblk, hblt, hget, oy, bly, fin⟩ := (cur.cast (TB' := .l 1 (ints (zs.getD i default)) :: ((zs.drop (i + 1)).map eIntS).flatten) rfl rfl (by rw [hd]; rfl)).row
   have hy := OT.cell oy
   have hi2 : (0 : Int) ≤ (i : Int) ∧ (i : Int) < (zs.length : Int) := by omega
   repeat (first | rw [ko] | rw [kr] | simp -dsimp -implicitDefEqProofs only [go_sem, rq1, hks, e5, e1, q1, hi2, hblk, hget, Int.toNat_natCast])
   refine wz_intro (markIntS_tree oy bly ⟨by omega, by omega⟩) ?_
   rintro _ g' ⟨a', z', rfl, lo', hi', o', hh, nn, fr⟩
   have cur' := fin g' _ o' nn fr
   repeat (first | rw [ko] | rw [kr] | simp -dsimp -implicitDefEqProofs only [go_sem, rq1, w1])
   refine nx_keep (m - 1) (by omega) zsm ⟨i + 1, a', c' ++ [z'], zsm, zsm, by omega, by simp [hcl], cur'.cast rfl (by simp [eIntS]) rfl, ch.snoc hh (by omega), by omega, by omega⟩
  ·repeat (first | rw [ko] | rw [kr] | simp -dsimp -implicitDefEqProofs only [go_sem, rq1, hks, e5, e1, q1])
   have hi3 : i = zs.length := by omega
   rw [hi3] at cur hi
   rw [List.take_length] at hi
   rw [List.drop_length] at cur
   have hcl2 : (rIntSS c').length = zs.length := by rw [rIntSS_len, hcl, hi3]
   obtain ⟨f1, f2, f3⟩ := CurA.full (es := rIntSS c') cur (by rw [hcl2]; omega) (fun e he => by
    obtain ⟨x, _, rfl⟩ := List.mem_map.1 he
    exact hE x)
   rw [hcl2] at f1
   exact ⟨a, c', rfl, lo, hi, f1, heldIntSS_ch ch (by rw [hcl]; omega), f2, f3⟩
end Go.Bi
end
section
set_option maxRecDepth 20000
namespace Go.Bi
open Go.Proofs
open Go.Ai (wrap_i64 wrap_u8)
variable {W0 : World} {P : Program}
set_option maxHeartbeats 4000000
def HeMerge (W0 : World) (e : LMerge) (a b : Int) : Prop := e.a = a ∧ e.b = a + 1 ∧ b = a + 1 + 1 ∧ 0 ≤ a ∧ b ≤ 4611686018427387904
def HhMergeS (W0 : World) (c : List LMerge) (a b : Int) : Prop := ∀ f g, PW Tryz.prog W0 174 [.sl f 2 (rMergeS c), .raw (.int .i64 a)] g (fun y => y = .raw (.int .i64 b))
theorem heldMergeS_ch {c : List LMerge} {k0 k1 : Int} (h : Ch (HeMerge W0) k0 c k1) (hl : c.length ≤ 4611686018427387904) : HhMergeS W0 c k0 k1 := by
 intro f g
 refine PW.scalar ?_
 refine begins [[0, 1], [0, 1], [0, 1, 5], [0, 1, 5], [0, 1, 5], [], [0, 1, 5], [0, 1, 5], [], [0, 1, 5], [1]] Tryz.func174 rfl (rs := [.tmp 4]) rfl rfl ?_
 intro wf
 repeat (first | rw [ko] | rw [kr] | simp -dsimp -implicitDefEqProofs only [go_sem])
 refine lz_keep [0] (fun m e h' => ∃ (i : Nat) (a : Int), g.le h' ∧ look e 5 .mk = .raw (.int .i64 (i : Nat)) ∧ look e 1 .mk = .raw (.int .i64 a) ∧ m + i = c.length ∧ Ch (HeMerge W0) a (c.drop i) k1) c.length ?_ ?_
 ·exact ⟨0, k0, H2.le.refl _, zsm, zsm, by omega, h⟩
 rintro m e h' hks ⟨i, a, hle, e5, e1, hm, hc⟩
 simp -dsimp -implicitDefEqProofs only [go_sem, rq1] at hks
 by_cases q1 : (i : Int) < (c.length : Int)
 ·have q2 : i < c.length := by omega
  obtain ⟨b, hb, h0, hc'⟩ := hc.step q2
  obtain ⟨f0, f1, hbe, ha0, hbt⟩ := hb
  have w1 := wrap_succ q2 (by omega)
  have d0 : decide (¬ (c.getD i default).a = a) = false := decide_eq_false (fun h => h f0)
  have v0 : IntKind.i64.wrap (a + 1) = a + 1 := by rw [wrap_i64] <;> omega
  have d1 : decide (¬ (c.getD i default).b = a + 1) = false := decide_eq_false (fun h => h f1)
  have v1 : IntKind.i64.wrap (a + 1 + 1) = a + 1 + 1 := by rw [wrap_i64] <;> omega
  repeat (first | rw [ko] | rw [kr] | simp -dsimp -implicitDefEqProofs only [go_sem, rq1, rq2, rq3, hks, e5, e1, q1, q2, w1, d0, v0, d1, v1])
  exact nx_keep (m - 1) (by omega) zsm ⟨i + 1, b, hle, zsm, by simp -dsimp -implicitDefEqProofs only [go_sem, rq1, hbe], by omega, hc'⟩
 ·repeat (first | rw [ko] | rw [kr] | simp -dsimp -implicitDefEqProofs only [go_sem, rq1, hks, e5, e1, q1])
  exact ⟨hle, ⟨_, rfl⟩, by rw [hc.done (by omega)]⟩
theorem markMergeS_tree {N : Nat} {bs : List Nat} {v : X} {zs : List LMerge} {h : H2} {k0 : Int} (o : OT h bs v (.l 2 (rMergeS zs))) (bl : Bl N (hn h .mk) bs) (hk : 0 ≤ k0 ∧ k0 + 64 * szMergeS zs ≤ 4611686018427387904) :
  WC2 Tryz.prog W0 87 [v, .raw (.int .i64 k0)] h (fun r h' => ∃ (k1 : Int) (c' : List LMerge), r = .raw (.int .i64 k1) ∧ k0 ≤ k1 ∧ k1 ≤ k0 + 64 * szMergeS zs ∧ OT h' bs v (.l 2 (rMergeS c')) ∧ HhMergeS W0 c' k0 k1 ∧ hn h .mk ≤ hn h' .mk ∧ ∀ b, b < hn h .mk → b ∉ bs → h'.get b = h.get b) := by
 have hE : ∀ a, (eMerge a).length = 2 := fun a => rfl
 have hsz : (zs.length : Int) ≤ szMergeS zs := by unfold szMergeS; omega
 rcases o.inv with ⟨rfl, rfl, he⟩ | ⟨b, bs', cs, rfl, rfl, hb, hcs, hz, oc⟩
 ·have hzs : zs = [] := by cases zs <;> simp_all [rMergeS]
  subst hzs
  refine begins [[0, 1], [0, 1], [0, 1, 5], [0, 1, 5], [0, 1, 5], [0, 1, 5], [0, 1, 5], [0, 1, 5], [1]] Tryz.func87 rfl (rs := [.tmp 4]) rfl rfl ?_
  intro wf
  repeat (first | rw [ko] | rw [kr] | simp -dsimp -implicitDefEqProofs only [go_sem])
  refine lz_keep [0] (fun m e h' => h' = h ∧ look e 5 .mk = .raw (.int .i64 0) ∧ look e 1 .mk = .raw (.int .i64 k0)) 0 ?_ ?_
  ·exact ⟨rfl, zsm, zsm⟩
  rintro m e h' hks ⟨rfl, e5, e1⟩
  simp -dsimp -implicitDefEqProofs only [go_sem, rq1] at hks
  have q1 : ¬ ((0 : Int) < ((0 : Nat) : Int)) := by decide
  repeat (first | rw [ko] | rw [kr] | simp -dsimp -implicitDefEqProofs only [go_sem, rq1, rq6, hks, e5, e1])
  exact ⟨k0, [], rfl, by omega, by omega, o, heldMergeS_ch .nil (by decide), Nat.le_refl _, fun _ _ _ => rfl⟩
 ·have hlen : (rMergeS zs).length = zs.length := rMergeS_len
  rw [hlen]
  refine begins [[0, 1], [0, 1], [0, 1, 5], [0, 1, 5], [0, 1, 5], [0, 1, 5], [0, 1, 5], [0, 1, 5], [1]] Tryz.func87 rfl (rs := [.tmp 4]) rfl rfl ?_
  intro wf
  repeat (first | rw [ko] | rw [kr] | simp -dsimp -implicitDefEqProofs only [go_sem])
  refine lz_keep [0] (fun m e h' => ∃ (i : Nat) (a : Int) (c' : List LMerge), look e 5 .mk = .raw (.int .i64 (i : Nat)) ∧ look e 1 .mk = .raw (.int .i64 a) ∧ m + i = zs.length ∧ c'.length = i ∧ CurA h b 2 bs' h' (i * 2) ((c'.map eMerge).flatten) (((zs.drop i).map eMerge).flatten) ∧ Ch (HeMerge W0) k0 c' a ∧ k0 ≤ a ∧ a ≤ k0 + 64 * (i + sumN szMerge (zs.take i))) zs.length ?_ ?_
  ·exact ⟨0, k0, [], zsm, zsm, by omega, rfl, (CurA.start hb oc bl).cast (by omega) rfl rfl, .nil, by omega, by omega⟩
  rintro m e h' hks ⟨i, a, c', e5, e1, hm, hcl, cur0, ch, lo, hi⟩
  simp -dsimp -implicitDefEqProofs only [go_sem, rq1] at hks
  by_cases q1 : (i : Int) < (zs.length : Int)
  ·have q2 : i < zs.length := by omega
   have hd : zs.drop i = zs.getD i default :: zs.drop (i + 1) := by rw [List.drop_eq_getElem_cons q2, List.getD_eq_getElem?_getD, List.getElem?_eq_getElem q2]; rfl
   have hst : sumN szMerge (zs.take (i + 1)) = sumN szMerge (zs.take i) + szMerge (zs.getD i default) := sumN_take (f := szMerge) q2
   have hle : sumN szMerge (zs.take (i + 1)) ≤ sumN szMerge zs := by
    have := sumN_append (f := szMerge) (l := zs.take (i + 1)) (m := zs.drop (i + 1))
    rw [List.take_append_drop] at this
    omega
   have hsz2 : szMergeS zs = zs.length + sumN szMerge zs := rfl
   have hszE : True := trivial
   have w1 := wrap_succ q2 (by omega)
   have hi2 : (0 : Int) ≤ (i : Int) ∧ (i : Int) < (zs.length : Int) := by omega
   replace cur0 := cur0.cast (TB' := [.v (.int .i64 (zs.getD i default).a), .v (.int .i64 (zs.getD i default).b)] ++ ((zs.drop (i + 1)).map eMerge).flatten) rfl rfl (by rw [hd]; rfl)
   simp only [List.cons_append, List.nil_append] at cur0
   obtain ⟨cs0, hblk0, hlt0, ⟨_, hget0⟩, hput0⟩ := cur0.put
   obtain ⟨cw0, hw0, cur1⟩ := hput0 (.int .i64 (a)) rfl
   try simp only [set_set] at cur1
   have v0 : IntKind.i64.wrap (a + 1) = a + 1 := by rw [wrap_i64] <;> omega
   obtain ⟨cs1, hblk1, hlt1, ⟨_, hget1⟩, hput1⟩ := cur1.put
   obtain ⟨cw1, hw1, cur2⟩ := hput1 (.int .i64 (a + 1)) rfl
   have es1 := set_same hblk1
   subst es1
   try simp only [set_set] at cur2
   have v1 : IntKind.i64.wrap (a + 1 + 1) = a + 1 + 1 := by rw [wrap_i64] <;> omega
   repeat (first | rw [ko] | rw [kr] | simp -dsimp -implicitDefEqProofs only [go_sem, rq1, hks, e5, e1, q1, hi2, Int.toNat_natCast, hoo, w1, hblk0, hw0, v0, hblk1, hw1, v1])
   refine nx_keep (m - 1) (by omega) zsm ⟨i + 1, a + 1 + 1, c' ++ [(⟨a, a + 1⟩ : LMerge)], zsm, zsm, by omega, by simp [hcl], cur2.cast (by omega) (by simp [eMerge, List.append_assoc]) rfl, ch.snoc ⟨rfl, rfl, rfl, by omega, by omega⟩ (by omega), by omega, by omega⟩
  ·repeat (first | rw [ko] | rw [kr] | simp -dsimp -implicitDefEqProofs only [go_sem, rq1, hks, e5, e1, q1])
   have hi3 : i = zs.length := by omega
   rw [hi3] at cur0 hi
   rw [List.take_length] at hi
   rw [List.drop_length] at cur0
   have hcl2 : (rMergeS c').length = zs.length := by rw [rMergeS_len, hcl, hi3]
   obtain ⟨f1, f2, f3⟩ := CurA.full (es := rMergeS c') cur0 (by rw [hcl2]) (fun e he => by
    obtain ⟨x, _, rfl⟩ := List.mem_map.1 he
    exact hE x)
   rw [hcl2] at f1
   exact ⟨a, c', rfl, lo, hi, f1, heldMergeS_ch ch (by rw [hcl]; omega), f2, f3⟩
end Go.Bi
end
section
set_option maxRecDepth 20000
namespace Go.Bi
open Go.Proofs
open Go.Ai (wrap_i64 wrap_u8)
variable {W0 : World} {P : Program}
set_option maxHeartbeats 4000000
def HeLayer (W0 : World) (e : LLayer) (a b : Int) : Prop := ∃ (k0 k2 k3 k7 k8 k12 k13 k17 k18 k21 k23 k24 k28 k29 : Int), (HhIntS W0 e.gain1 (a) k0 ∧ a ≤ k0) ∧ e.q.width = k0 ∧ (HhIntSS W0 e.q.rows (k0 + 1) k2 ∧ k0 + 1 ≤ k2) ∧ (HhIntSS W0 e.q.scales (k2) k3 ∧ k2 ≤ k3) ∧ e.q.mul = k3 ∧ e.q.shift = k3 + 1 ∧ e.k.width = k3 + 1 + 1 ∧ (HhIntSS W0 e.k.rows (k3 + 1 + 1 + 1) k7 ∧ k3 + 1 + 1 + 1 ≤ k7) ∧ (HhIntSS W0 e.k.scales (k7) k8 ∧ k7 ≤ k8) ∧ e.k.mul = k8 ∧ e.k.shift = k8 + 1 ∧ e.v.width = k8 + 1 + 1 ∧ (HhIntSS W0 e.v.rows (k8 + 1 + 1 + 1) k12 ∧ k8 + 1 + 1 + 1 ≤ k12) ∧ (HhIntSS W0 e.v.scales (k12) k13 ∧ k12 ≤ k13) ∧ e.v.mul = k13 ∧ e.v.shift = k13 + 1 ∧ e.o.width = k13 + 1 + 1 ∧ (HhIntSS W0 e.o.rows (k13 + 1 + 1 + 1) k17 ∧ k13 + 1 + 1 + 1 ≤ k17) ∧ (HhIntSS W0 e.o.scales (k17) k18 ∧ k17 ≤ k18) ∧ e.o.mul = k18 ∧ e.o.shift = k18 + 1 ∧ (HhIntS W0 e.gain2 (k18 + 1 + 1) k21 ∧ k18 + 1 + 1 ≤ k21) ∧ e.up.width = k21 ∧ (HhIntSS W0 e.up.rows (k21 + 1) k23 ∧ k21 + 1 ≤ k23) ∧ (HhIntSS W0 e.up.scales (k23) k24 ∧ k23 ≤ k24) ∧ e.up.mul = k24 ∧ e.up.shift = k24 + 1 ∧ e.down.width = k24 + 1 + 1 ∧ (HhIntSS W0 e.down.rows (k24 + 1 + 1 + 1) k28 ∧ k24 + 1 + 1 + 1 ≤ k28) ∧ (HhIntSS W0 e.down.scales (k28) k29 ∧ k28 ≤ k29) ∧ e.down.mul = k29 ∧ e.down.shift = k29 + 1 ∧ b = k29 + 1 + 1 ∧ 0 ≤ a ∧ b ≤ 4611686018427387904
def HhLayerS (W0 : World) (c : List LLayer) (a b : Int) : Prop := ∀ f g, PW Tryz.prog W0 176 [.sl f 32 (rLayerS c), .raw (.int .i64 a)] g (fun y => y = .raw (.int .i64 b))
theorem heldLayerS_ch {c : List LLayer} {k0 k1 : Int} (h : Ch (HeLayer W0) k0 c k1) (hl : c.length ≤ 4611686018427387904) : HhLayerS W0 c k0 k1 := by
 intro f g
 refine PW.scalar ?_
 refine begins [[0, 1], [0, 1], [0, 1, 5], [0, 1, 5], [0, 1, 5], [0, 1, 5], [], [0, 1, 5], [], [0, 1, 5], [0, 1, 5], [0, 1, 5], [], [0, 1, 5], [0, 1, 5], [], [0, 1, 5], [], [0, 1, 5], [0, 1, 5], [], [0, 1, 5], [0, 1, 5], [], [0, 1, 5], [0, 1, 5], [0, 1, 5], [], [0, 1, 5], [0, 1, 5], [], [0, 1, 5], [], [0, 1, 5], [0, 1, 5], [], [0, 1, 5], [0, 1, 5], [], [0, 1, 5], [0, 1, 5], [0, 1, 5], [], [0, 1, 5], [0, 1, 5], [], [0, 1, 5], [], [0, 1, 5], [0, 1, 5], [], [0, 1, 5], [0, 1, 5], [], [0, 1, 5], [0, 1, 5], [0, 1, 5], [], [0, 1, 5], [0, 1, 5], [], [0, 1, 5], [], [0, 1, 5], [0, 1, 5], [], [0, 1, 5], [0, 1, 5], [0, 1, 5], [], [0, 1, 5], [], [0, 1, 5], [0, 1, 5], [0, 1, 5], [], [0, 1, 5], [0, 1, 5], [], [0, 1, 5], [], [0, 1, 5], [0, 1, 5], [], [0, 1, 5], [0, 1, 5], [], [0, 1, 5], [0, 1, 5], [0, 1, 5], [], [0, 1, 5], [0, 1, 5], [], [0, 1, 5], [], [0, 1, 5], [0, 1, 5], [], [0, 1, 5], [1]] Tryz.func176 rfl (rs := [.tmp 4]) rfl rfl ?_
 intro wf
 repeat (first | rw [ko] | rw [kr] | simp -dsimp -implicitDefEqProofs only [go_sem])
 refine lz_keep [0] (fun m e h' => ∃ (i : Nat) (a : Int), g.le h' ∧ look e 5 .mk = .raw (.int .i64 (i : Nat)) ∧ look e 1 .mk = .raw (.int .i64 a) ∧ m + i = c.length ∧ Ch (HeLayer W0) a (c.drop i) k1) c.length ?_ ?_
 ·exact ⟨0, k0, H2.le.refl _, zsm, zsm, by omega, h⟩
 rintro m e h' hks ⟨i, a, hle, e5, e1, hm, hc⟩
 simp -dsimp -implicitDefEqProofs only [go_sem, rq1] at hks
 by_cases q1 : (i : Int) < (c.length : Int)
 ·have q2 : i < c.length := by omega
  obtain ⟨b, hb, h0, hc'⟩ := hc.step q2
  obtain ⟨k0, k2, k3, k7, k8, k12, k13, k17, k18, k21, k23, k24, k28, k29, ⟨f0, l0⟩, f1, ⟨f2, l2⟩, ⟨f3, l3⟩, f4, f5, f6, ⟨f7, l7⟩, ⟨f8, l8⟩, f9, f10, f11, ⟨f12, l12⟩, ⟨f13, l13⟩, f14, f15, f16, ⟨f17, l17⟩, ⟨f18, l18⟩, f19, f20, ⟨f21, l21⟩, f22, ⟨f23, l23⟩, ⟨f24, l24⟩, f25, f26, f27, ⟨f28, l28⟩, ⟨f29, l29⟩, f30, f31, hbe, ha0, hbt⟩ := hb
  have w1 := wrap_succ q2 (by omega)
  have q_0 : ¬ k0 < 0 := by omega
  have d1 : decide (¬ (c.getD i default).q.width = k0) = false := decide_eq_false (fun h => h f1)
  have v1 : IntKind.i64.wrap (k0 + 1) = k0 + 1 := by rw [wrap_i64] <;> omega
  have q_2 : ¬ k2 < 0 := by omega
  have q_3 : ¬ k3 < 0 := by omega
  have d4 : decide (¬ (c.getD i default).q.mul = k3) = false := decide_eq_false (fun h => h f4)
  have v4 : IntKind.i64.wrap (k3 + 1) = k3 + 1 := by rw [wrap_i64] <;> omega
  have d5 : decide (¬ (c.getD i default).q.shift = k3 + 1) = false := decide_eq_false (fun h => h f5)
  have v5 : IntKind.i64.wrap (k3 + 1 + 1) = k3 + 1 + 1 := by rw [wrap_i64] <;> omega
  have d6 : decide (¬ (c.getD i default).k.width = k3 + 1 + 1) = false := decide_eq_false (fun h => h f6)
  have v6 : IntKind.i64.wrap (k3 + 1 + 1 + 1) = k3 + 1 + 1 + 1 := by rw [wrap_i64] <;> omega
  have q_7 : ¬ k7 < 0 := by omega
  have q_8 : ¬ k8 < 0 := by omega
  have d9 : decide (¬ (c.getD i default).k.mul = k8) = false := decide_eq_false (fun h => h f9)
  have v9 : IntKind.i64.wrap (k8 + 1) = k8 + 1 := by rw [wrap_i64] <;> omega
  have d10 : decide (¬ (c.getD i default).k.shift = k8 + 1) = false := decide_eq_false (fun h => h f10)
  have v10 : IntKind.i64.wrap (k8 + 1 + 1) = k8 + 1 + 1 := by rw [wrap_i64] <;> omega
  have d11 : decide (¬ (c.getD i default).v.width = k8 + 1 + 1) = false := decide_eq_false (fun h => h f11)
  have v11 : IntKind.i64.wrap (k8 + 1 + 1 + 1) = k8 + 1 + 1 + 1 := by rw [wrap_i64] <;> omega
  have q_12 : ¬ k12 < 0 := by omega
  have q_13 : ¬ k13 < 0 := by omega
  have d14 : decide (¬ (c.getD i default).v.mul = k13) = false := decide_eq_false (fun h => h f14)
  have v14 : IntKind.i64.wrap (k13 + 1) = k13 + 1 := by rw [wrap_i64] <;> omega
  have d15 : decide (¬ (c.getD i default).v.shift = k13 + 1) = false := decide_eq_false (fun h => h f15)
  have v15 : IntKind.i64.wrap (k13 + 1 + 1) = k13 + 1 + 1 := by rw [wrap_i64] <;> omega
  have d16 : decide (¬ (c.getD i default).o.width = k13 + 1 + 1) = false := decide_eq_false (fun h => h f16)
  have v16 : IntKind.i64.wrap (k13 + 1 + 1 + 1) = k13 + 1 + 1 + 1 := by rw [wrap_i64] <;> omega
  have q_17 : ¬ k17 < 0 := by omega
  have q_18 : ¬ k18 < 0 := by omega
  have d19 : decide (¬ (c.getD i default).o.mul = k18) = false := decide_eq_false (fun h => h f19)
  have v19 : IntKind.i64.wrap (k18 + 1) = k18 + 1 := by rw [wrap_i64] <;> omega
  have d20 : decide (¬ (c.getD i default).o.shift = k18 + 1) = false := decide_eq_false (fun h => h f20)
  have v20 : IntKind.i64.wrap (k18 + 1 + 1) = k18 + 1 + 1 := by rw [wrap_i64] <;> omega
  have q_21 : ¬ k21 < 0 := by omega
  have d22 : decide (¬ (c.getD i default).up.width = k21) = false := decide_eq_false (fun h => h f22)
  have v22 : IntKind.i64.wrap (k21 + 1) = k21 + 1 := by rw [wrap_i64] <;> omega
  have q_23 : ¬ k23 < 0 := by omega
  have q_24 : ¬ k24 < 0 := by omega
  have d25 : decide (¬ (c.getD i default).up.mul = k24) = false := decide_eq_false (fun h => h f25)
  have v25 : IntKind.i64.wrap (k24 + 1) = k24 + 1 := by rw [wrap_i64] <;> omega
  have d26 : decide (¬ (c.getD i default).up.shift = k24 + 1) = false := decide_eq_false (fun h => h f26)
  have v26 : IntKind.i64.wrap (k24 + 1 + 1) = k24 + 1 + 1 := by rw [wrap_i64] <;> omega
  have d27 : decide (¬ (c.getD i default).down.width = k24 + 1 + 1) = false := decide_eq_false (fun h => h f27)
  have v27 : IntKind.i64.wrap (k24 + 1 + 1 + 1) = k24 + 1 + 1 + 1 := by rw [wrap_i64] <;> omega
  have q_28 : ¬ k28 < 0 := by omega
  have q_29 : ¬ k29 < 0 := by omega
  have d30 : decide (¬ (c.getD i default).down.mul = k29) = false := decide_eq_false (fun h => h f30)
  have v30 : IntKind.i64.wrap (k29 + 1) = k29 + 1 := by rw [wrap_i64] <;> omega
  have d31 : decide (¬ (c.getD i default).down.shift = k29 + 1) = false := decide_eq_false (fun h => h f31)
  have v31 : IntKind.i64.wrap (k29 + 1 + 1) = k29 + 1 + 1 := by rw [wrap_i64] <;> omega
  repeat (first | rw [ko] | rw [kr] | simp -dsimp -implicitDefEqProofs only [go_sem, rq1, rq2, rq3, hks, e5, e1, q1, q2])
  refine pw_intro (f0 _ _) ?_
  rintro _ n0 hn0 rfl
  try simp only [hn_up] at hn0
  repeat (first | rw [ko] | rw [kr] | simp -dsimp -implicitDefEqProofs only [go_sem, rq1, rq2, rq3, q2, q_0, d1, v1])
  refine pw_intro (f2 _ _) ?_
  rintro _ n2 hn2 rfl
  try simp only [hn_up] at hn2
  repeat (first | rw [ko] | rw [kr] | simp -dsimp -implicitDefEqProofs only [go_sem, rq1, rq2, rq3, q2, q_2])
  refine pw_intro (f3 _ _) ?_
  rintro _ n3 hn3 rfl
  try simp only [hn_up] at hn3
  repeat (first | rw [ko] | rw [kr] | simp -dsimp -implicitDefEqProofs only [go_sem, rq1, rq2, rq3, q2, q_3, d4, v4, d5, v5, d6, v6])
  refine pw_intro (f7 _ _) ?_
  rintro _ n7 hn7 rfl
  try simp only [hn_up] at hn7
  repeat (first | rw [ko] | rw [kr] | simp -dsimp -implicitDefEqProofs only [go_sem, rq1, rq2, rq3, q2, q_7])
  refine pw_intro (f8 _ _) ?_
  rintro _ n8 hn8 rfl
  try simp only [hn_up] at hn8
  repeat (first | rw [ko] | rw [kr] | simp -dsimp -implicitDefEqProofs only [go_sem, rq1, rq2, rq3, q2, q_8, d9, v9, d10, v10, d11, v11])
  refine pw_intro (f12 _ _) ?_
  rintro _ n12 hn12 rfl
  try simp only [hn_up] at hn12
  repeat (first | rw [ko] | rw [kr] | simp -dsimp -implicitDefEqProofs only [go_sem, rq1, rq2, rq3, q2, q_12])
  refine pw_intro (f13 _ _) ?_
  rintro _ n13 hn13 rfl
  try simp only [hn_up] at hn13
  repeat (first | rw [ko] | rw [kr] | simp -dsimp -implicitDefEqProofs only [go_sem, rq1, rq2, rq3, q2, q_13, d14, v14, d15, v15, d16, v16])
  refine pw_intro (f17 _ _) ?_
  rintro _ n17 hn17 rfl
  try simp only [hn_up] at hn17
  repeat (first | rw [ko] | rw [kr] | simp -dsimp -implicitDefEqProofs only [go_sem, rq1, rq2, rq3, q2, q_17])
  refine pw_intro (f18 _ _) ?_
  rintro _ n18 hn18 rfl
  try simp only [hn_up] at hn18
  repeat (first | rw [ko] | rw [kr] | simp -dsimp -implicitDefEqProofs only [go_sem, rq1, rq2, rq3, q2, q_18, d19, v19, d20, v20])
  refine pw_intro (f21 _ _) ?_
  rintro _ n21 hn21 rfl
  try simp only [hn_up] at hn21
  repeat (first | rw [ko] | rw [kr] | simp -dsimp -implicitDefEqProofs only [go_sem, rq1, rq2, rq3, q2, q_21, d22, v22])
  refine pw_intro (f23 _ _) ?_
  rintro _ n23 hn23 rfl
  try simp only [hn_up] at hn23
  repeat (first | rw [ko] | rw [kr] | simp -dsimp -implicitDefEqProofs only [go_sem, rq1, rq2, rq3, q2, q_23])
  refine pw_intro (f24 _ _) ?_
  rintro _ n24 hn24 rfl
  try simp only [hn_up] at hn24
  repeat (first | rw [ko] | rw [kr] | simp -dsimp -implicitDefEqProofs only [go_sem, rq1, rq2, rq3, q2, q_24, d25, v25, d26, v26, d27, v27])
  refine pw_intro (f28 _ _) ?_
  rintro _ n28 hn28 rfl
  try simp only [hn_up] at hn28
  repeat (first | rw [ko] | rw [kr] | simp -dsimp -implicitDefEqProofs only [go_sem, rq1, rq2, rq3, q2, q_28])
  refine pw_intro (f29 _ _) ?_
  rintro _ n29 hn29 rfl
  try simp only [hn_up] at hn29
  repeat (first | rw [ko] | rw [kr] | simp -dsimp -implicitDefEqProofs only [go_sem, rq1, rq2, rq3, q2, w1, q_29, d30, v30, d31, v31])
  exact nx_keep (m - 1) (by omega) zsm ⟨i + 1, b, (le_up (le_up (le_up (le_up (le_up (le_up (le_up (le_up (le_up (le_up (le_up (le_up (le_up (le_up hle (by first | exact hn0 | (simp only [hn_up]; exact hn0))) (by first | exact hn2 | (simp only [hn_up]; exact hn2))) (by first | exact hn3 | (simp only [hn_up]; exact hn3))) (by first | exact hn7 | (simp only [hn_up]; exact hn7))) (by first | exact hn8 | (simp only [hn_up]; exact hn8))) (by first | exact hn12 | (simp only [hn_up]; exact hn12))) (by first | exact hn13 | (simp only [hn_up]; exact hn13))) (by first | exact hn17 | (simp only [hn_up]; exact hn17))) (by first | exact hn18 | (simp only [hn_up]; exact hn18))) (by first | exact hn21 | (simp only [hn_up]; exact hn21))) (by first | exact hn23 | (simp only [hn_up]; exact hn23))) (by first | exact hn24 | (simp only [hn_up]; exact hn24))) (by first | exact hn28 | (simp only [hn_up]; exact hn28))) (by first | exact hn29 | (simp only [hn_up]; exact hn29))), zsm, by simp -dsimp -implicitDefEqProofs only [go_sem, rq1, hbe], by omega, hc'⟩
 ·repeat (first | rw [ko] | rw [kr] | simp -dsimp -implicitDefEqProofs only [go_sem, rq1, hks, e5, e1, q1])
  exact ⟨hle, ⟨_, rfl⟩, by rw [hc.done (by omega)]⟩
theorem markLayerS_tree {N : Nat} {bs : List Nat} {v : X} {zs : List LLayer} {h : H2} {k0 : Int} (o : OT h bs v (.l 32 (rLayerS zs))) (bl : Bl N (hn h .mk) bs) (hk : 0 ≤ k0 ∧ k0 + 64 * szLayerS zs ≤ 4611686018427387904) :
  WC2 Tryz.prog W0 89 [v, .raw (.int .i64 k0)] h (fun r h' => ∃ (k1 : Int) (c' : List LLayer), r = .raw (.int .i64 k1) ∧ k0 ≤ k1 ∧ k1 ≤ k0 + 64 * szLayerS zs ∧ OT h' bs v (.l 32 (rLayerS c')) ∧ HhLayerS W0 c' k0 k1 ∧ hn h .mk ≤ hn h' .mk ∧ ∀ b, b < hn h .mk → b ∉ bs → h'.get b = h.get b) := by
 have hE : ∀ a, (eLayer a).length = 32 := fun a => rfl
 have hsz : (zs.length : Int) ≤ szLayerS zs := by unfold szLayerS; omega
 rcases o.inv with ⟨rfl, rfl, he⟩ | ⟨b, bs', cs, rfl, rfl, hb, hcs, hz, oc⟩
 ·have hzs : zs = [] := by cases zs <;> simp_all [rLayerS]
  subst hzs
  refine begins [[0, 1], [0, 1], [0, 1, 5], [0, 1, 5], [0, 1, 5], [0, 1, 5], [0, 1, 5], [0, 1, 5], [0, 1, 5], [0, 1, 5], [0, 1, 5], [0, 1, 5], [0, 1, 5], [0, 1, 5], [0, 1, 5], [0, 1, 5], [0, 1, 5], [0, 1, 5], [0, 1, 5], [0, 1, 5], [0, 1, 5], [0, 1, 5], [0, 1, 5], [0, 1, 5], [0, 1, 5], [0, 1, 5], [0, 1, 5], [0, 1, 5], [0, 1, 5], [0, 1, 5], [0, 1, 5], [0, 1, 5], [0, 1, 5], [0, 1, 5], [0, 1, 5], [0, 1, 5], [0, 1, 5], [0, 1, 5], [0, 1, 5], [0, 1, 5], [0, 1, 5], [0, 1, 5], [0, 1, 5], [0, 1, 5], [0, 1, 5], [0, 1, 5], [0, 1, 5], [0, 1, 5], [0, 1, 5], [0, 1, 5], [0, 1, 5], [0, 1, 5], [0, 1, 5], [0, 1, 5], [1]] Tryz.func89 rfl (rs := [.tmp 4]) rfl rfl ?_
  intro wf
  repeat (first | rw [ko] | rw [kr] | simp -dsimp -implicitDefEqProofs only [go_sem])
  refine lz_keep [0] (fun m e h' => h' = h ∧ look e 5 .mk = .raw (.int .i64 0) ∧ look e 1 .mk = .raw (.int .i64 k0)) 0 ?_ ?_
  ·exact ⟨rfl, zsm, zsm⟩
  rintro m e h' hks ⟨rfl, e5, e1⟩
  simp -dsimp -implicitDefEqProofs only [go_sem, rq1] at hks
  have q1 : ¬ ((0 : Int) < ((0 : Nat) : Int)) := by decide
  repeat (first | rw [ko] | rw [kr] | simp -dsimp -implicitDefEqProofs only [go_sem, rq1, rq6, hks, e5, e1])
  exact ⟨k0, [], rfl, by omega, by omega, o, heldLayerS_ch .nil (by decide), Nat.le_refl _, fun _ _ _ => rfl⟩
 ·have hlen : (rLayerS zs).length = zs.length := rLayerS_len
  rw [hlen]
  refine begins [[0, 1], [0, 1], [0, 1, 5], [0, 1, 5], [0, 1, 5], [0, 1, 5], [0, 1, 5], [0, 1, 5], [0, 1, 5], [0, 1, 5], [0, 1, 5], [0, 1, 5], [0, 1, 5], [0, 1, 5], [0, 1, 5], [0, 1, 5], [0, 1, 5], [0, 1, 5], [0, 1, 5], [0, 1, 5], [0, 1, 5], [0, 1, 5], [0, 1, 5], [0, 1, 5], [0, 1, 5], [0, 1, 5], [0, 1, 5], [0, 1, 5], [0, 1, 5], [0, 1, 5], [0, 1, 5], [0, 1, 5], [0, 1, 5], [0, 1, 5], [0, 1, 5], [0, 1, 5], [0, 1, 5], [0, 1, 5], [0, 1, 5], [0, 1, 5], [0, 1, 5], [0, 1, 5], [0, 1, 5], [0, 1, 5], [0, 1, 5], [0, 1, 5], [0, 1, 5], [0, 1, 5], [0, 1, 5], [0, 1, 5], [0, 1, 5], [0, 1, 5], [0, 1, 5], [0, 1, 5], [1]] Tryz.func89 rfl (rs := [.tmp 4]) rfl rfl ?_
  intro wf
  repeat (first | rw [ko] | rw [kr] | simp -dsimp -implicitDefEqProofs only [go_sem])
  refine lz_keep [0] (fun m e h' => ∃ (i : Nat) (a : Int) (c' : List LLayer), look e 5 .mk = .raw (.int .i64 (i : Nat)) ∧ look e 1 .mk = .raw (.int .i64 a) ∧ m + i = zs.length ∧ c'.length = i ∧ CurA h b 32 bs' h' (i * 32) ((c'.map eLayer).flatten) (((zs.drop i).map eLayer).flatten) ∧ Ch (HeLayer W0) k0 c' a ∧ k0 ≤ a ∧ a ≤ k0 + 64 * (i + sumN szLayer (zs.take i))) zs.length ?_ ?_
  ·exact ⟨0, k0, [], zsm, zsm, by omega, rfl, (CurA.start hb oc bl).cast (by omega) rfl rfl, .nil, by omega, by omega⟩
  rintro m e h' hks ⟨i, a, c', e5, e1, hm, hcl, cur0, ch, lo, hi⟩
  simp -dsimp -implicitDefEqProofs only [go_sem, rq1] at hks
  by_cases q1 : (i : Int) < (zs.length : Int)
  ·have q2 : i < zs.length := by omega
   have hd : zs.drop i = zs.getD i default :: zs.drop (i + 1) := by rw [List.drop_eq_getElem_cons q2, List.getD_eq_getElem?_getD, List.getElem?_eq_getElem q2]; rfl
   have hst : sumN szLayer (zs.take (i + 1)) = sumN szLayer (zs.take i) + szLayer (zs.getD i default) := sumN_take (f := szLayer) q2
   have hle : sumN szLayer (zs.take (i + 1)) ≤ sumN szLayer zs := by
    have := sumN_append (f := szLayer) (l := zs.take (i + 1)) (m := zs.drop (i + 1))
    rw [List.take_append_drop] at this
    omega
   have hsz2 : szLayerS zs = zs.length + sumN szLayer zs := rfl
   have hszE : szLayer (zs.getD i default) = (zs.getD i default).gain1.length + szMatrix (zs.getD i default).q + szMatrix (zs.getD i default).k + szMatrix (zs.getD i default).v + szMatrix (zs.getD i default).o + (zs.getD i default).gain2.length + szMatrix (zs.getD i default).up + szMatrix (zs.getD i default).down := rfl
   have hsz_Matrix : szMatrix (zs.getD i default).q = szIntSS (zs.getD i default).q.rows + szIntSS (zs.getD i default).q.scales := rfl
   have hsz_Matrix : szMatrix (zs.getD i default).k = szIntSS (zs.getD i default).k.rows + szIntSS (zs.getD i default).k.scales := rfl
   have hsz_Matrix : szMatrix (zs.getD i default).v = szIntSS (zs.getD i default).v.rows + szIntSS (zs.getD i default).v.scales := rfl
   have hsz_Matrix : szMatrix (zs.getD i default).o = szIntSS (zs.getD i default).o.rows + szIntSS (zs.getD i default).o.scales := rfl
   have hsz_Matrix : szMatrix (zs.getD i default).up = szIntSS (zs.getD i default).up.rows + szIntSS (zs.getD i default).up.scales := rfl
   have hsz_Matrix : szMatrix (zs.getD i default).down = szIntSS (zs.getD i default).down.rows + szIntSS (zs.getD i default).down.scales := rfl
   have w1 := wrap_succ q2 (by omega)
   have hi2 : (0 : Int) ≤ (i : Int) ∧ (i : Int) < (zs.length : Int) := by omega
   replace cur0 := cur0.cast (TB' := [.l 1 (ints (zs.getD i default).gain1), .v (.int .i64 (zs.getD i default).q.width), .l 1 (rIntSS (zs.getD i default).q.rows), .l 1 (rIntSS (zs.getD i default).q.scales), .v (.int .i64 (zs.getD i default).q.mul), .v (.int .i64 (zs.getD i default).q.shift), .v (.int .i64 (zs.getD i default).k.width), .l 1 (rIntSS (zs.getD i default).k.rows), .l 1 (rIntSS (zs.getD i default).k.scales), .v (.int .i64 (zs.getD i default).k.mul), .v (.int .i64 (zs.getD i default).k.shift), .v (.int .i64 (zs.getD i default).v.width), .l 1 (rIntSS (zs.getD i default).v.rows), .l 1 (rIntSS (zs.getD i default).v.scales), .v (.int .i64 (zs.getD i default).v.mul), .v (.int .i64 (zs.getD i default).v.shift), .v (.int .i64 (zs.getD i default).o.width), .l 1 (rIntSS (zs.getD i default).o.rows), .l 1 (rIntSS (zs.getD i default).o.scales), .v (.int .i64 (zs.getD i default).o.mul), .v (.int .i64 (zs.getD i default).o.shift), .l 1 (ints (zs.getD i default).gain2), .v (.int .i64 (zs.getD i default).up.width), .l 1 (rIntSS (zs.getD i default).up.rows), .l 1 (rIntSS (zs.getD i default).up.scales), .v (.int .i64 (zs.getD i default).up.mul), .v (.int .i64 (zs.getD i default).up.shift), .v (.int .i64 (zs.getD i default).down.width), .l 1 (rIntSS (zs.getD i default).down.rows), .l 1 (rIntSS (zs.getD i default).down.scales), .v (.int .i64 (zs.getD i default).down.mul), .v (.int .i64 (zs.getD i default).down.shift)] ++ ((zs.drop (i + 1)).map eLayer).flatten) rfl rfl (by rw [hd]; rfl)
   simp only [List.cons_append, List.nil_append] at cur0
   obtain ⟨cs0, y0, bb0, hblk0, hlt0, hget0, oy0, bly0, fin0⟩ := cur0.row
   have hy0 := OT.cell oy0
   repeat (first | rw [ko] | rw [kr] | simp -dsimp -implicitDefEqProofs only [go_sem, rq1, hks, e5, e1, q1, hi2, Int.toNat_natCast, hoo, hblk0, hget0])
   refine wz_intro (markIntS_tree oy0 bly0 ⟨by omega, by omega⟩) ?_
   rintro _ g0 ⟨k0, x0, rfl, lo0, hi0, o0, hh0, nn0, fr0⟩
   have cur1 := fin0 g0 _ o0 nn0 fr0
   obtain ⟨cs1, hblk1, hlt1, ⟨_, hget1⟩, hput1⟩ := cur1.put
   obtain ⟨cw1, hw1, cur2⟩ := hput1 (.int .i64 (k0)) rfl
   try simp only [set_set] at cur2
   have v1 : IntKind.i64.wrap (k0 + 1) = k0 + 1 := by rw [wrap_i64] <;> omega
   obtain ⟨cs2, y2, bb2, hblk2, hlt2, hget2, oy2, bly2, fin2⟩ := cur2.row
   have hy2 := OT.cell oy2
   have es2 := set_same hblk2
   subst es2
   repeat (first | rw [ko] | rw [kr] | simp -dsimp -implicitDefEqProofs only [go_sem, rq1, q1, hi2, Int.toNat_natCast, hoo, hblk1, hw1, v1, hblk2, hget2])
   refine wz_intro (markIntSS_tree oy2 bly2 ⟨by omega, by omega⟩) ?_
   rintro _ g2 ⟨k2, x2, rfl, lo2, hi2, o2, hh2, nn2, fr2⟩
   have cur3 := fin2 g2 _ o2 nn2 fr2
   obtain ⟨cs3, y3, bb3, hblk3, hlt3, hget3, oy3, bly3, fin3⟩ := cur3.row
   have hy3 := OT.cell oy3
   repeat (first | rw [ko] | rw [kr] | simp -dsimp -implicitDefEqProofs only [go_sem, rq1, q1, nat_nn, Int.toNat_natCast, hoo, hblk3, hget3])
   refine wz_intro (markIntSS_tree oy3 bly3 ⟨by omega, by omega⟩) ?_
   rintro _ g3 ⟨k3, x3, rfl, lo3, hi3, o3, hh3, nn3, fr3⟩
   have cur4 := fin3 g3 _ o3 nn3 fr3
   obtain ⟨cs4, hblk4, hlt4, ⟨_, hget4⟩, hput4⟩ := cur4.put
   obtain ⟨cw4, hw4, cur5⟩ := hput4 (.int .i64 (k3)) rfl
   try simp only [set_set] at cur5
   have v4 : IntKind.i64.wrap (k3 + 1) = k3 + 1 := by rw [wrap_i64] <;> omega
   obtain ⟨cs5, hblk5, hlt5, ⟨_, hget5⟩, hput5⟩ := cur5.put
   obtain ⟨cw5, hw5, cur6⟩ := hput5 (.int .i64 (k3 + 1)) rfl
   have es5 := set_same hblk5
   subst es5
   try simp only [set_set] at cur6
   have v5 : IntKind.i64.wrap (k3 + 1 + 1) = k3 + 1 + 1 := by rw [wrap_i64] <;> omega
   obtain ⟨cs6, hblk6, hlt6, ⟨_, hget6⟩, hput6⟩ := cur6.put
   obtain ⟨cw6, hw6, cur7⟩ := hput6 (.int .i64 (k3 + 1 + 1)) rfl
   have es6 := set_same hblk6
   subst es6
   try simp only [set_set] at cur7
   have v6 : IntKind.i64.wrap (k3 + 1 + 1 + 1) = k3 + 1 + 1 + 1 := by rw [wrap_i64] <;> omega
   obtain ⟨cs7, y7, bb7, hblk7, hlt7, hget7, oy7, bly7, fin7⟩ := cur7.row
   have hy7 := OT.cell oy7
   have es7 := set_same hblk7
   subst es7
   repeat (first | rw [ko] | rw [kr] | simp -dsimp -implicitDefEqProofs only [go_sem, rq1, q1, nat_nn, Int.toNat_natCast, hoo, hblk4, hw4, v4, hblk5, hw5, v5, hblk6, hw6, v6, hblk7, hget7])
   refine wz_intro (markIntSS_tree oy7 bly7 ⟨by omega, by omega⟩) ?_
   rintro _ g7 ⟨k7, x7, rfl, lo7, hi7, o7, hh7, nn7, fr7⟩
   have cur8 := fin7 g7 _ o7 nn7 fr7
   obtain ⟨cs8, y8, bb8, hblk8, hlt8, hget8, oy8, bly8, fin8⟩ := cur8.row
   have hy8 := OT.cell oy8
   repeat (first | rw [ko] | rw [kr] | simp -dsimp -implicitDefEqProofs only [go_sem, rq1, q1, nat_nn, Int.toNat_natCast, hoo, hblk8, hget8])
   refine wz_intro (markIntSS_tree oy8 bly8 ⟨by omega, by omega⟩) ?_
   rintro _ g8 ⟨k8, x8, rfl, lo8, hi8, o8, hh8, nn8, fr8⟩
   have cur9 := fin8 g8 _ o8 nn8 fr8
   obtain ⟨cs9, hblk9, hlt9, ⟨_, hget9⟩, hput9⟩ := cur9.put
   obtain ⟨cw9, hw9, cur10⟩ := hput9 (.int .i64 (k8)) rfl
   try simp only [set_set] at cur10
   have v9 : IntKind.i64.wrap (k8 + 1) = k8 + 1 := by rw [wrap_i64] <;> omega
   obtain ⟨cs10, hblk10, hlt10, ⟨_, hget10⟩, hput10⟩ := cur10.put
   obtain ⟨cw10, hw10, cur11⟩ := hput10 (.int .i64 (k8 + 1)) rfl
   have es10 := set_same hblk10
   subst es10
   try simp only [set_set] at cur11
   have v10 : IntKind.i64.wrap (k8 + 1 + 1) = k8 + 1 + 1 := by rw [wrap_i64] <;> omega
   obtain ⟨cs11, hblk11, hlt11, ⟨_, hget11⟩, hput11⟩ := cur11.put
   obtain ⟨cw11, hw11, cur12⟩ := hput11 (.int .i64 (k8 + 1 + 1)) rfl
   have es11 := set_same hblk11
   subst es11
   try simp only [set_set] at cur12
   have v11 : IntKind.i64.wrap (k8 + 1 + 1 + 1) = k8 + 1 + 1 + 1 := by rw [wrap_i64] <;> omega
   obtain ⟨cs12, y12, bb12, hblk12, hlt12, hget12, oy12, bly12, fin12⟩ := cur12.row
   have hy12 := OT.cell oy12
   have es12 := set_same hblk12
   subst es12
   repeat (first | rw [ko] | rw [kr] | simp -dsimp -implicitDefEqProofs only [go_sem, rq1, q1, nat_nn, Int.toNat_natCast, hoo, hblk9, hw9, v9, hblk10, hw10, v10, hblk11, hw11, v11, hblk12, hget12])
   refine wz_intro (markIntSS_tree oy12 bly12 ⟨by omega, by omega⟩) ?_
   rintro _ g12 ⟨k12, x12, rfl, lo12, hi12, o12, hh12, nn12, fr12⟩
   have cur13 := fin12 g12 _ o12 nn12 fr12
   obtain ⟨cs13, y13, bb13, hblk13, hlt13, hget13, oy13, bly13, fin13⟩ := cur13.row
   have hy13 := OT.cell oy13
   repeat (first | rw [ko] | rw [kr] | simp -dsimp -implicitDefEqProofs only [go_sem, rq1, q1, nat_nn, Int.toNat_natCast, hoo, hblk13, hget13])
   refine wz_intro (markIntSS_tree oy13 bly13 ⟨by omega, by omega⟩) ?_
   rintro _ g13 ⟨k13, x13, rfl, lo13, hi13, o13, hh13, nn13, fr13⟩
   have cur14 := fin13 g13 _ o13 nn13 fr13
   obtain ⟨cs14, hblk14, hlt14, ⟨_, hget14⟩, hput14⟩ := cur14.put
   obtain ⟨cw14, hw14, cur15⟩ := hput14 (.int .i64 (k13)) rfl
   try simp only [set_set] at cur15
   have v14 : IntKind.i64.wrap (k13 + 1) = k13 + 1 := by rw [wrap_i64] <;> omega
   obtain ⟨cs15, hblk15, hlt15, ⟨_, hget15⟩, hput15⟩ := cur15.put
   obtain ⟨cw15, hw15, cur16⟩ := hput15 (.int .i64 (k13 + 1)) rfl
   have es15 := set_same hblk15
   subst es15
   try simp only [set_set] at cur16
   have v15 : IntKind.i64.wrap (k13 + 1 + 1) = k13 + 1 + 1 := by rw [wrap_i64] <;> omega
   obtain ⟨cs16, hblk16, hlt16, ⟨_, hget16⟩, hput16⟩ := cur16.put
   obtain ⟨cw16, hw16, cur17⟩ := hput16 (.int .i64 (k13 + 1 + 1)) rfl
   have es16 := set_same hblk16
   subst es16
   try simp only [set_set] at cur17
   have v16 : IntKind.i64.wrap (k13 + 1 + 1 + 1) = k13 + 1 + 1 + 1 := by rw [wrap_i64] <;> omega
   obtain ⟨cs17, y17, bb17, hblk17, hlt17, hget17, oy17, bly17, fin17⟩ := cur17.row
   have hy17 := OT.cell oy17
   have es17 := set_same hblk17
   subst es17
   repeat (first | rw [ko] | rw [kr] | simp -dsimp -implicitDefEqProofs only [go_sem, rq1, q1, nat_nn, Int.toNat_natCast, hoo, hblk14, hw14, v14, hblk15, hw15, v15, hblk16, hw16, v16, hblk17, hget17])
   refine wz_intro (markIntSS_tree oy17 bly17 ⟨by omega, by omega⟩) ?_
   rintro _ g17 ⟨k17, x17, rfl, lo17, hi17, o17, hh17, nn17, fr17⟩
   have cur18 := fin17 g17 _ o17 nn17 fr17
   obtain ⟨cs18, y18, bb18, hblk18, hlt18, hget18, oy18, bly18, fin18⟩ := cur18.row
   have hy18 := OT.cell oy18
   repeat (first | rw [ko] | rw [kr] | simp -dsimp -implicitDefEqProofs only [go_sem, rq1, q1, nat_nn, Int.toNat_natCast, hoo, hblk18, hget18])
   refine wz_intro (markIntSS_tree oy18 bly18 ⟨by omega, by omega⟩) ?_
   rintro _ g18 ⟨k18, x18, rfl, lo18, hi18, o18, hh18, nn18, fr18⟩
   have cur19 := fin18 g18 _ o18 nn18 fr18
   obtain ⟨cs19, hblk19, hlt19, ⟨_, hget19⟩, hput19⟩ := cur19.put
   obtain ⟨cw19, hw19, cur20⟩ := hput19 (.int .i64 (k18)) rfl
   try simp only [set_set] at cur20
   have v19 : IntKind.i64.wrap (k18 + 1) = k18 + 1 := by rw [wrap_i64] <;> omega
   obtain ⟨cs20, hblk20, hlt20, ⟨_, hget20⟩, hput20⟩ := cur20.put
   obtain ⟨cw20, hw20, cur21⟩ := hput20 (.int .i64 (k18 + 1)) rfl
   have es20 := set_same hblk20
   subst es20
   try simp only [set_set] at cur21
   have v20 : IntKind.i64.wrap (k18 + 1 + 1) = k18 + 1 + 1 := by rw [wrap_i64] <;> omega
   obtain ⟨cs21, y21, bb21, hblk21, hlt21, hget21, oy21, bly21, fin21⟩ := cur21.row
   have hy21 := OT.cell oy21
   have es21 := set_same hblk21
   subst es21
   repeat (first | rw [ko] | rw [kr] | simp -dsimp -implicitDefEqProofs only [go_sem, rq1, q1, nat_nn, Int.toNat_natCast, hoo, hblk19, hw19, v19, hblk20, hw20, v20, hblk21, hget21])
   refine wz_intro (markIntS_tree oy21 bly21 ⟨by omega, by omega⟩) ?_
   rintro _ g21 ⟨k21, x21, rfl, lo21, hi21, o21, hh21, nn21, fr21⟩
   have cur22 := fin21 g21 _ o21 nn21 fr21
   obtain ⟨cs22, hblk22, hlt22, ⟨_, hget22⟩, hput22⟩ := cur22.put
   obtain ⟨cw22, hw22, cur23⟩ := hput22 (.int .i64 (k21)) rfl
   try simp only [set_set] at cur23
   have v22 : IntKind.i64.wrap (k21 + 1) = k21 + 1 := by rw [wrap_i64] <;> omega
   obtain ⟨cs23, y23, bb23, hblk23, hlt23, hget23, oy23, bly23, fin23⟩ := cur23.row
   have hy23 := OT.cell oy23
   have es23 := set_same hblk23
   subst es23
   repeat (first | rw [ko] | rw [kr] | simp -dsimp -implicitDefEqProofs only [go_sem, rq1, q1, nat_nn, Int.toNat_natCast, hoo, hblk22, hw22, v22, hblk23, hget23])
   refine wz_intro (markIntSS_tree oy23 bly23 ⟨by omega, by omega⟩) ?_
   rintro _ g23 ⟨k23, x23, rfl, lo23, hi23, o23, hh23, nn23, fr23⟩
   have cur24 := fin23 g23 _ o23 nn23 fr23
   obtain ⟨cs24, y24, bb24, hblk24, hlt24, hget24, oy24, bly24, fin24⟩ := cur24.row
   have hy24 := OT.cell oy24
   repeat (first | rw [ko] | rw [kr] | simp -dsimp -implicitDefEqProofs only [go_sem, rq1, q1, nat_nn, Int.toNat_natCast, hoo, hblk24, hget24])
   refine wz_intro (markIntSS_tree oy24 bly24 ⟨by omega, by omega⟩) ?_
   rintro _ g24 ⟨k24, x24, rfl, lo24, hi24, o24, hh24, nn24, fr24⟩
   have cur25 := fin24 g24 _ o24 nn24 fr24
   obtain ⟨cs25, hblk25, hlt25, ⟨_, hget25⟩, hput25⟩ := cur25.put
   obtain ⟨cw25, hw25, cur26⟩ := hput25 (.int .i64 (k24)) rfl
   try simp only [set_set] at cur26
   have v25 : IntKind.i64.wrap (k24 + 1) = k24 + 1 := by rw [wrap_i64] <;> omega
   obtain ⟨cs26, hblk26, hlt26, ⟨_, hget26⟩, hput26⟩ := cur26.put
   obtain ⟨cw26, hw26, cur27⟩ := hput26 (.int .i64 (k24 + 1)) rfl
   have es26 := set_same hblk26
   subst es26
   try simp only [set_set] at cur27
   have v26 : IntKind.i64.wrap (k24 + 1 + 1) = k24 + 1 + 1 := by rw [wrap_i64] <;> omega
   obtain ⟨cs27, hblk27, hlt27, ⟨_, hget27⟩, hput27⟩ := cur27.put
   obtain ⟨cw27, hw27, cur28⟩ := hput27 (.int .i64 (k24 + 1 + 1)) rfl
   have es27 := set_same hblk27
   subst es27
   try simp only [set_set] at cur28
   have v27 : IntKind.i64.wrap (k24 + 1 + 1 + 1) = k24 + 1 + 1 + 1 := by rw [wrap_i64] <;> omega
   obtain ⟨cs28, y28, bb28, hblk28, hlt28, hget28, oy28, bly28, fin28⟩ := cur28.row
   have hy28 := OT.cell oy28
   have es28 := set_same hblk28
   subst es28
   repeat (first | rw [ko] | rw [kr] | simp -dsimp -implicitDefEqProofs only [go_sem, rq1, q1, nat_nn, Int.toNat_natCast, hoo, hblk25, hw25, v25, hblk26, hw26, v26, hblk27, hw27, v27, hblk28, hget28])
   refine wz_intro (markIntSS_tree oy28 bly28 ⟨by omega, by omega⟩) ?_
   rintro _ g28 ⟨k28, x28, rfl, lo28, hi28, o28, hh28, nn28, fr28⟩
   have cur29 := fin28 g28 _ o28 nn28 fr28
   obtain ⟨cs29, y29, bb29, hblk29, hlt29, hget29, oy29, bly29, fin29⟩ := cur29.row
   have hy29 := OT.cell oy29
   repeat (first | rw [ko] | rw [kr] | simp -dsimp -implicitDefEqProofs only [go_sem, rq1, q1, nat_nn, Int.toNat_natCast, hoo, hblk29, hget29])
   refine wz_intro (markIntSS_tree oy29 bly29 ⟨by omega, by omega⟩) ?_
   rintro _ g29 ⟨k29, x29, rfl, lo29, hi29, o29, hh29, nn29, fr29⟩
   have cur30 := fin29 g29 _ o29 nn29 fr29
   obtain ⟨cs30, hblk30, hlt30, ⟨_, hget30⟩, hput30⟩ := cur30.put
   obtain ⟨cw30, hw30, cur31⟩ := hput30 (.int .i64 (k29)) rfl
   try simp only [set_set] at cur31
   have v30 : IntKind.i64.wrap (k29 + 1) = k29 + 1 := by rw [wrap_i64] <;> omega
   obtain ⟨cs31, hblk31, hlt31, ⟨_, hget31⟩, hput31⟩ := cur31.put
   obtain ⟨cw31, hw31, cur32⟩ := hput31 (.int .i64 (k29 + 1)) rfl
   have es31 := set_same hblk31
   subst es31
   try simp only [set_set] at cur32
   have v31 : IntKind.i64.wrap (k29 + 1 + 1) = k29 + 1 + 1 := by rw [wrap_i64] <;> omega
   repeat (first | rw [ko] | rw [kr] | simp -dsimp -implicitDefEqProofs only [go_sem, rq1, q1, nat_nn, Int.toNat_natCast, hoo, w1, hblk30, hw30, v30, hblk31, hw31, v31])
   refine nx_keep (m - 1) (by omega) zsm ⟨i + 1, k29 + 1 + 1, c' ++ [(⟨x0, ⟨k0, x2, x3, k3, k3 + 1⟩, ⟨k3 + 1 + 1, x7, x8, k8, k8 + 1⟩, ⟨k8 + 1 + 1, x12, x13, k13, k13 + 1⟩, ⟨k13 + 1 + 1, x17, x18, k18, k18 + 1⟩, x21, ⟨k21, x23, x24, k24, k24 + 1⟩, ⟨k24 + 1 + 1, x28, x29, k29, k29 + 1⟩⟩ : LLayer)], zsm, zsm, by omega, by simp [hcl], cur32.cast (by omega) (by simp [eLayer, List.append_assoc]) rfl, ch.snoc ⟨k0, k2, k3, k7, k8, k12, k13, k17, k18, k21, k23, k24, k28, k29, ⟨hh0, lo0⟩, rfl, ⟨hh2, lo2⟩, ⟨hh3, lo3⟩, rfl, rfl, rfl, ⟨hh7, lo7⟩, ⟨hh8, lo8⟩, rfl, rfl, rfl, ⟨hh12, lo12⟩, ⟨hh13, lo13⟩, rfl, rfl, rfl, ⟨hh17, lo17⟩, ⟨hh18, lo18⟩, rfl, rfl, ⟨hh21, lo21⟩, rfl, ⟨hh23, lo23⟩, ⟨hh24, lo24⟩, rfl, rfl, rfl, ⟨hh28, lo28⟩, ⟨hh29, lo29⟩, rfl, rfl, rfl, by omega, by omega⟩ (by omega), by omega, by omega⟩
  ·repeat (first | rw [ko] | rw [kr] | simp -dsimp -implicitDefEqProofs only [go_sem, rq1, hks, e5, e1, q1])
   have hi3 : i = zs.length := by omega
   rw [hi3] at cur0 hi
   rw [List.take_length] at hi
   rw [List.drop_length] at cur0
   have hcl2 : (rLayerS c').length = zs.length := by rw [rLayerS_len, hcl, hi3]
   obtain ⟨f1, f2, f3⟩ := CurA.full (es := rLayerS c') cur0 (by rw [hcl2]) (fun e he => by
    obtain ⟨x, _, rfl⟩ := List.mem_map.1 he
    exact hE x)
   rw [hcl2] at f1
   exact ⟨a, c', rfl, lo, hi, f1, heldLayerS_ch ch (by rw [hcl]; omega), f2, f3⟩
end Go.Bi
end
section
set_option maxRecDepth 20000
namespace Go.Bi
open Go.Proofs
open Go.Ai (wrap_i64 wrap_u8)
variable {W0 : World} {P : Program}
set_option maxHeartbeats 4000000
theorem heldMatrix_ok {c : LMatrix} {k0 k1 k2 : Int} (h1 : ∀ f g, PW Tryz.prog W0 175 [.sl f 1 (rIntSS c.rows), .raw (.int .i64 k0)] g (fun y => y = .raw (.int .i64 k1))) (h2 : ∀ f g, PW Tryz.prog W0 175 [.sl f 1 (rIntSS c.scales), .raw (.int .i64 k1)] g (fun y => y = .raw (.int .i64 k2))) (p1 : 0 ≤ k1) (p2 : 0 ≤ k2) : ∀ F g, PW Tryz.prog W0 178 [.st (xMatrix F c), .raw (.int .i64 k0)] g (fun y => y = .raw (.int .i64 k2)) := by
 intro F h
 refine PW.scalar ?_
 refine begins [[0, 1], [1, 2], [1, 2], [], [1, 2], [1], [], [1]] Tryz.func178 rfl (rs := [.tmp 4]) rfl rfl ?_
 intro wf
 have q1 : ¬ k1 < 0 := by omega
 have q2 : ¬ k2 < 0 := by omega
 repeat (first | rw [ko] | rw [kr] | simp -dsimp -implicitDefEqProofs only [go_sem, rq1])
 refine pw_intro (h1 _ _) ?_
 rintro _ n1 hn1 rfl
 repeat (first | rw [ko] | rw [kr] | simp -dsimp -implicitDefEqProofs only [go_sem, rq1, q1])
 refine pw_intro (h2 _ _) ?_
 rintro _ n2 hn2 rfl
 repeat (first | rw [ko] | rw [kr] | simp -dsimp -implicitDefEqProofs only [go_sem, rq1, q2])
 exact ⟨zale, ⟨_, rfl⟩, rfl⟩
theorem markMatrix_ok {N : Nat} {c : LMatrix} {h : H2} {k0 : Int} {b1 b2 : List Nat} {s1 s2 : X} (o1 : OT h b1 s1 (.l 1 (rIntSS c.rows))) (o2 : OT h b2 s2 (.l 1 (rIntSS c.scales))) (bl : Bl N (hn h .mk) (b1 ++ b2)) (hk : 0 ≤ k0 ∧ k0 + 64 * szMatrix c ≤ 4611686018427387904) : WC2 Tryz.prog W0 90 [.st [.raw (.int .i64 c.width), s1, s2, .raw (.int .i64 c.mul), .raw (.int .i64 c.shift)], .raw (.int .i64 k0)] h (fun r h' => ∃ (k1 : Int) (z1 : List (List Int)) (z2 : List (List Int)), r = .raw (.int .i64 k1) ∧ k0 ≤ k1 ∧ k1 ≤ k0 + 64 * szMatrix c ∧ (OT h' b1 s1 (.l 1 (rIntSS z1)) ∧ OT h' b2 s2 (.l 1 (rIntSS z2))) ∧ (∀ F g, PW Tryz.prog W0 178 [.st (xMatrix F { c with rows := z1, scales := z2 }), .raw (.int .i64 k0)] g (fun y => y = .raw (.int .i64 k1))) ∧ hn h .mk ≤ hn h' .mk ∧ ∀ b, b < hn h .mk → b ∉ (b1 ++ b2) → h'.get b = h.get b) := by
 unfold szMatrix at *
 obtain ⟨bl0, rb0, D0⟩ := bl.split
 have bl1 := rb0
 have lj1 := bl0
 have lj2 := bl1
 refine begins [[0, 1], [1, 2], [1, 2], [1]] Tryz.func90 rfl (rs := [.tmp 4]) rfl rfl ?_
 intro wf
 repeat (first | rw [ko] | rw [kr] | simp -dsimp -implicitDefEqProofs only [go_sem, rq1])
 replace o1 := fun k => OT.keep o1 (H2.le_push1 h k) lj1
 replace o2 := fun k => OT.keep o2 (H2.le_push1 h k) lj2
 refine wz_intro (markIntSS_tree (o1 _) (bl0.wide (Nat.le_refl _) (by simp only [hn_push]; omega)) ⟨by omega, by omega⟩) ?_
 rintro _ g1 ⟨k1, z1, rfl, lo1, hi1, d1, hd1, n1, fr1⟩
 simp only [hn_push] at n1
 have a1 : hg g1 (hn h .mk) .mk = _ := fr1 (hn h .mk) (by simp only [hn_push]; omega) (fun hb => by have := (bl0.2 _ hb).2; omega)
 replace a1 : hg g1 (hn h .mk) .mk = hg (h.push _) (hn h .mk) .mk := a1
 simp -dsimp -implicitDefEqProofs only [go_sem, hoo] at a1
 replace o2 := OT.frame (g' := g1) (o2 _) fun b hb => fr1 b (by have := (lj2.2 b hb).2; simp only [hn_push]; omega) (fun hx => D0 b hx (by simp [hb]))
 repeat (first | rw [ko] | rw [kr] | simp -dsimp -implicitDefEqProofs only [go_sem, rq1, a1])
 refine wz_intro (markIntSS_tree (o2) (bl1.wide (Nat.le_refl _) (by omega)) ⟨by omega, by omega⟩) ?_
 rintro _ g2 ⟨k2, z2, rfl, lo2, hi2, d2, hd2, n2, fr2⟩
 have a2 : hg g2 (hn h .mk) .mk = _ := fr2 (hn h .mk) (by omega) (fun hb => by have := (bl1.2 _ hb).2; omega)
 replace a2 : hg g2 (hn h .mk) .mk = hg g1 (hn h .mk) .mk := a2
 simp -dsimp -implicitDefEqProofs only [go_sem, a1] at a2
 replace d1 := OT.frame (g' := g2) d1 fun b hb => fr2 b (by have := (lj1.2 b hb).2; omega) (fun hx => D0 b (by simp [hb]) (by first | (simp [hx]; done) | (simp only [List.mem_append] at hx ⊢; rcases hx with hx | hx <;> simp [hx])))
 repeat (first | rw [ko] | rw [kr] | simp -dsimp -implicitDefEqProofs only [go_sem])
 refine ⟨k2, z1, z2, rfl, by omega, by omega, ⟨d1, d2⟩, heldMatrix_ok hd1 hd2 (by omega) (by omega), by omega, fun b hb hnb => ?_⟩
 simp only [List.mem_append, not_or] at hnb
 rw [fr2 b (by omega) hnb.2]
 rw [fr1 b (by simp only [hn_push]; omega) hnb.1]
 simp only [H2.push]; rw [if_neg (by unfold hn at hb; omega)]
theorem heldTurns_ok {c : LTurns} {k0 k1 k2 : Int} (h0 : ∀ f g, PW Tryz.prog W0 175 [.sl f 1 (rIntSS c.cos), .raw (.int .i64 k0)] g (fun y => y = .raw (.int .i64 k1))) (h1 : ∀ f g, PW Tryz.prog W0 175 [.sl f 1 (rIntSS c.sin), .raw (.int .i64 k1)] g (fun y => y = .raw (.int .i64 k2))) (p1 : 0 ≤ k1) (p2 : 0 ≤ k2) : ∀ F g, PW Tryz.prog W0 179 [.st (xTurns F c), .raw (.int .i64 k0)] g (fun y => y = .raw (.int .i64 k2)) := by
 intro F h
 refine PW.scalar ?_
 refine begins [[0, 1], [1, 2], [1, 2], [], [1, 2], [1], [], [1]] Tryz.func179 rfl (rs := [.tmp 4]) rfl rfl ?_
 intro wf
 have q1 : ¬ k1 < 0 := by omega
 have q2 : ¬ k2 < 0 := by omega
 repeat (first | rw [ko] | rw [kr] | simp -dsimp -implicitDefEqProofs only [go_sem, rq1])
 refine pw_intro (h0 _ _) ?_
 rintro _ n0 hn0 rfl
 repeat (first | rw [ko] | rw [kr] | simp -dsimp -implicitDefEqProofs only [go_sem, rq1, q1])
 refine pw_intro (h1 _ _) ?_
 rintro _ n1 hn1 rfl
 repeat (first | rw [ko] | rw [kr] | simp -dsimp -implicitDefEqProofs only [go_sem, rq1, q2])
 exact ⟨zale, ⟨_, rfl⟩, rfl⟩
theorem markTurns_ok {N : Nat} {c : LTurns} {h : H2} {k0 : Int} {b0 b1 : List Nat} {s0 s1 : X} (o0 : OT h b0 s0 (.l 1 (rIntSS c.cos))) (o1 : OT h b1 s1 (.l 1 (rIntSS c.sin))) (bl : Bl N (hn h .mk) (b0 ++ b1)) (hk : 0 ≤ k0 ∧ k0 + 64 * szTurns c ≤ 4611686018427387904) : WC2 Tryz.prog W0 91 [.st [s0, s1], .raw (.int .i64 k0)] h (fun r h' => ∃ (k1 : Int) (z0 : List (List Int)) (z1 : List (List Int)), r = .raw (.int .i64 k1) ∧ k0 ≤ k1 ∧ k1 ≤ k0 + 64 * szTurns c ∧ (OT h' b0 s0 (.l 1 (rIntSS z0)) ∧ OT h' b1 s1 (.l 1 (rIntSS z1))) ∧ (∀ F g, PW Tryz.prog W0 179 [.st (xTurns F { c with cos := z0, sin := z1 }), .raw (.int .i64 k0)] g (fun y => y = .raw (.int .i64 k1))) ∧ hn h .mk ≤ hn h' .mk ∧ ∀ b, b < hn h .mk → b ∉ (b0 ++ b1) → h'.get b = h.get b) := by
 unfold szTurns at *
 obtain ⟨bl0, rb0, D0⟩ := bl.split
 have bl1 := rb0
 have lj0 := bl0
 have lj1 := bl1
 refine begins [[0, 1], [1, 2], [1, 2], [1]] Tryz.func91 rfl (rs := [.tmp 4]) rfl rfl ?_
 intro wf
 repeat (first | rw [ko] | rw [kr] | simp -dsimp -implicitDefEqProofs only [go_sem, rq1])
 replace o0 := fun k => OT.keep o0 (H2.le_push1 h k) lj0
 replace o1 := fun k => OT.keep o1 (H2.le_push1 h k) lj1
 refine wz_intro (markIntSS_tree (o0 _) (bl0.wide (Nat.le_refl _) (by simp only [hn_push]; omega)) ⟨by omega, by omega⟩) ?_
 rintro _ g0 ⟨k1, z0, rfl, lo0, hi0, d0, hd0, n0, fr0⟩
 simp only [hn_push] at n0
 have a0 : hg g0 (hn h .mk) .mk = _ := fr0 (hn h .mk) (by simp only [hn_push]; omega) (fun hb => by have := (bl0.2 _ hb).2; omega)
 replace a0 : hg g0 (hn h .mk) .mk = hg (h.push _) (hn h .mk) .mk := a0
 simp -dsimp -implicitDefEqProofs only [go_sem, hoo] at a0
 replace o1 := OT.frame (g' := g0) (o1 _) fun b hb => fr0 b (by have := (lj1.2 b hb).2; simp only [hn_push]; omega) (fun hx => D0 b hx (by simp [hb]))
 repeat (first | rw [ko] | rw [kr] | simp -dsimp -implicitDefEqProofs only [go_sem, rq1, a0])
 refine wz_intro (markIntSS_tree (o1) (bl1.wide (Nat.le_refl _) (by omega)) ⟨by omega, by omega⟩) ?_
 rintro _ g1 ⟨k2, z1, rfl, lo1, hi1, d1, hd1, n1, fr1⟩
 have a1 : hg g1 (hn h .mk) .mk = _ := fr1 (hn h .mk) (by omega) (fun hb => by have := (bl1.2 _ hb).2; omega)
 replace a1 : hg g1 (hn h .mk) .mk = hg g0 (hn h .mk) .mk := a1
 simp -dsimp -implicitDefEqProofs only [go_sem, a0] at a1
 replace d0 := OT.frame (g' := g1) d0 fun b hb => fr1 b (by have := (lj0.2 b hb).2; omega) (fun hx => D0 b (by simp [hb]) (by first | (simp [hx]; done) | (simp only [List.mem_append] at hx ⊢; rcases hx with hx | hx <;> simp [hx])))
 repeat (first | rw [ko] | rw [kr] | simp -dsimp -implicitDefEqProofs only [go_sem])
 refine ⟨k2, z0, z1, rfl, by omega, by omega, ⟨d0, d1⟩, heldTurns_ok hd0 hd1 (by omega) (by omega), by omega, fun b hb hnb => ?_⟩
 simp only [List.mem_append, not_or] at hnb
 rw [fr1 b (by omega) hnb.2]
 rw [fr0 b (by simp only [hn_push]; omega) hnb.1]
 simp only [H2.push]; rw [if_neg (by unfold hn at hb; omega)]
theorem heldModel_ok {c : LModel} {k0 k1 k2 k3 k4 k5 k6 : Int} (h3 : ∀ f g, PW Tryz.prog W0 174 [.sl f 2 (rMergeS c.merges), .raw (.int .i64 k0)] g (fun y => y = .raw (.int .i64 k1))) (h4 : ∀ f g, PW Tryz.prog W0 175 [.sl f 1 (rIntSS c.embed), .raw (.int .i64 k1)] g (fun y => y = .raw (.int .i64 k2))) (h5 : ∀ f g, PW Tryz.prog W0 176 [.sl f 32 (rLayerS c.layers), .raw (.int .i64 k2)] g (fun y => y = .raw (.int .i64 k3))) (h6 : ∀ f g, PW Tryz.prog W0 177 [.sl f 1 (ints c.gainEnd), .raw (.int .i64 k3)] g (fun y => y = .raw (.int .i64 k4))) (h7 : ∀ F g, PW Tryz.prog W0 178 [.st (xMatrix F c.head), .raw (.int .i64 k4)] g (fun y => y = .raw (.int .i64 k5))) (h8 : ∀ F g, PW Tryz.prog W0 179 [.st (xTurns F c.turns), .raw (.int .i64 k5)] g (fun y => y = .raw (.int .i64 k6))) (p1 : 0 ≤ k1) (p2 : 0 ≤ k2) (p3 : 0 ≤ k3) (p4 : 0 ≤ k4) (p5 : 0 ≤ k5) (p6 : 0 ≤ k6) : ∀ F g, PW Tryz.prog W0 94 [.st (xModel F c), .raw (.int .i64 k0)] g (fun y => y = .raw (.int .i64 k6)) := by
 intro F h
 refine PW.scalar ?_
 refine begins [[0, 1], [1, 2], [1, 2], [], [1, 2], [1, 2], [], [1, 2], [1, 2], [], [1, 2], [1, 2], [], [1, 2], [1, 2], [], [1, 2], [1], [], [1]] Tryz.func94 rfl (rs := [.tmp 4]) rfl rfl ?_
 intro wf
 have q1 : ¬ k1 < 0 := by omega
 have q2 : ¬ k2 < 0 := by omega
 have q3 : ¬ k3 < 0 := by omega
 have q4 : ¬ k4 < 0 := by omega
 have q5 : ¬ k5 < 0 := by omega
 have q6 : ¬ k6 < 0 := by omega
 repeat (first | rw [ko] | rw [kr] | simp -dsimp -implicitDefEqProofs only [go_sem, rq1])
 refine pw_intro (h3 _ _) ?_
 rintro _ n3 hn3 rfl
 repeat (first | rw [ko] | rw [kr] | simp -dsimp -implicitDefEqProofs only [go_sem, rq1, q1])
 refine pw_intro (h4 _ _) ?_
 rintro _ n4 hn4 rfl
 repeat (first | rw [ko] | rw [kr] | simp -dsimp -implicitDefEqProofs only [go_sem, rq1, q2])
 refine pw_intro (h5 _ _) ?_
 rintro _ n5 hn5 rfl
 repeat (first | rw [ko] | rw [kr] | simp -dsimp -implicitDefEqProofs only [go_sem, rq1, q3])
 refine pw_intro (h6 _ _) ?_
 rintro _ n6 hn6 rfl
 repeat (first | rw [ko] | rw [kr] | simp -dsimp -implicitDefEqProofs only [go_sem, rq1, q4])
 refine pw_intro (h7 (fun j => F (j + 7)) _) ?_
 rintro _ n7 hn7 rfl
 repeat (first | rw [ko] | rw [kr] | simp -dsimp -implicitDefEqProofs only [go_sem, rq1, q5])
 refine pw_intro (h8 (fun j => F (j + 12)) _) ?_
 rintro _ n8 hn8 rfl
 repeat (first | rw [ko] | rw [kr] | simp -dsimp -implicitDefEqProofs only [go_sem, rq1, q6])
 exact ⟨zale, ⟨_, rfl⟩, rfl⟩
theorem markModel_ok {N : Nat} {c : LModel} {h : H2} {k0 : Int} {b3 b4 b5 b6 b8 b9 b12 b13 : List Nat} {s3 s4 s5 s6 s8 s9 s12 s13 : X} (o3 : OT h b3 s3 (.l 2 (rMergeS c.merges))) (o4 : OT h b4 s4 (.l 1 (rIntSS c.embed))) (o5 : OT h b5 s5 (.l 32 (rLayerS c.layers))) (o6 : OT h b6 s6 (.l 1 (ints c.gainEnd))) (o8 : OT h b8 s8 (.l 1 (rIntSS c.head.rows))) (o9 : OT h b9 s9 (.l 1 (rIntSS c.head.scales))) (o12 : OT h b12 s12 (.l 1 (rIntSS c.turns.cos))) (o13 : OT h b13 s13 (.l 1 (rIntSS c.turns.sin))) (bl : Bl N (hn h .mk) (b3 ++ (b4 ++ (b5 ++ (b6 ++ (b8 ++ (b9 ++ (b12 ++ b13)))))))) (hk : 0 ≤ k0 ∧ k0 + 64 * szModel c ≤ 4611686018427387904) : WC2 Tryz.prog W0 27 [.st [.raw (.int .i64 c.dim), .raw (.int .i64 c.heads), .raw (.int .i64 c.context), s3, s4, s5, s6, .raw (.int .i64 c.head.width), s8, s9, .raw (.int .i64 c.head.mul), .raw (.int .i64 c.head.shift), s12, s13], .raw (.int .i64 k0)] h (fun r h' => ∃ (k1 : Int) (z3 : List LMerge) (z4 : List (List Int)) (z5 : List LLayer) (z6 : List Int) (z8 : List (List Int)) (z9 : List (List Int)) (z12 : List (List Int)) (z13 : List (List Int)), r = .raw (.int .i64 k1) ∧ k0 ≤ k1 ∧ k1 ≤ k0 + 64 * szModel c ∧ (OT h' b3 s3 (.l 2 (rMergeS z3)) ∧ OT h' b4 s4 (.l 1 (rIntSS z4)) ∧ OT h' b5 s5 (.l 32 (rLayerS z5)) ∧ OT h' b6 s6 (.l 1 (ints z6)) ∧ OT h' b8 s8 (.l 1 (rIntSS z8)) ∧ OT h' b9 s9 (.l 1 (rIntSS z9)) ∧ OT h' b12 s12 (.l 1 (rIntSS z12)) ∧ OT h' b13 s13 (.l 1 (rIntSS z13))) ∧ (∀ F g, PW Tryz.prog W0 94 [.st (xModel F { c with merges := z3, embed := z4, layers := z5, gainEnd := z6, head := { c.head with rows := z8, scales := z9 }, turns := { c.turns with cos := z12, sin := z13 } }), .raw (.int .i64 k0)] g (fun y => y = .raw (.int .i64 k1))) ∧ hn h .mk ≤ hn h' .mk ∧ ∀ b, b < hn h .mk → b ∉ (b3 ++ (b4 ++ (b5 ++ (b6 ++ (b8 ++ (b9 ++ (b12 ++ b13))))))) → h'.get b = h.get b) := by
 unfold szModel at *
 replace bl : Bl N (hn h .mk) (b3 ++ (b4 ++ (b5 ++ (b6 ++ ((b8 ++ b9) ++ (b12 ++ b13)))))) := by simpa only [List.append_assoc] using bl
 obtain ⟨bl0, rb0, D0⟩ := bl.split
 obtain ⟨bl1, rb1, D1⟩ := rb0.split
 obtain ⟨bl2, rb2, D2⟩ := rb1.split
 obtain ⟨bl3, rb3, D3⟩ := rb2.split
 obtain ⟨bl4, rb4, D4⟩ := rb3.split
 have bl5 := rb4
 have lj3 := bl0
 have lj4 := bl1
 have lj5 := bl2
 have lj6 := bl3
 have lj8 := bl4.split.1
 have lj9 := bl4.split.2.1
 have lj12 := bl5.split.1
 have lj13 := bl5.split.2.1
 refine begins [[0, 1], [1, 2], [1, 2], [1, 2], [1, 2], [1, 2], [1, 2], [1]] Tryz.func27 rfl (rs := [.tmp 4]) rfl rfl ?_
 intro wf
 repeat (first | rw [ko] | rw [kr] | simp -dsimp -implicitDefEqProofs only [go_sem, rq1])
 replace o3 := fun k => OT.keep o3 (H2.le_push1 h k) lj3
 replace o4 := fun k => OT.keep o4 (H2.le_push1 h k) lj4
 replace o5 := fun k => OT.keep o5 (H2.le_push1 h k) lj5
 replace o6 := fun k => OT.keep o6 (H2.le_push1 h k) lj6
 replace o8 := fun k => OT.keep o8 (H2.le_push1 h k) lj8
 replace o9 := fun k => OT.keep o9 (H2.le_push1 h k) lj9
 replace o12 := fun k => OT.keep o12 (H2.le_push1 h k) lj12
 replace o13 := fun k => OT.keep o13 (H2.le_push1 h k) lj13
 refine wz_intro (markMergeS_tree (o3 _) (bl0.wide (Nat.le_refl _) (by simp only [hn_push]; omega)) ⟨by omega, by omega⟩) ?_
 rintro _ g3 ⟨k1, z3, rfl, lo3, hi3, d3, hd3, n3, fr3⟩
 simp only [hn_push] at n3
 have a3 : hg g3 (hn h .mk) .mk = _ := fr3 (hn h .mk) (by simp only [hn_push]; omega) (fun hb => by have := (bl0.2 _ hb).2; omega)
 replace a3 : hg g3 (hn h .mk) .mk = hg (h.push _) (hn h .mk) .mk := a3
 simp -dsimp -implicitDefEqProofs only [go_sem, hoo] at a3
 replace o4 := OT.frame (g' := g3) (o4 _) fun b hb => fr3 b (by have := (lj4.2 b hb).2; simp only [hn_push]; omega) (fun hx => D0 b hx (by simp [hb]))
 replace o5 := OT.frame (g' := g3) (o5 _) fun b hb => fr3 b (by have := (lj5.2 b hb).2; simp only [hn_push]; omega) (fun hx => D0 b hx (by simp [hb]))
 replace o6 := OT.frame (g' := g3) (o6 _) fun b hb => fr3 b (by have := (lj6.2 b hb).2; simp only [hn_push]; omega) (fun hx => D0 b hx (by simp [hb]))
 replace o8 := OT.frame (g' := g3) (o8 _) fun b hb => fr3 b (by have := (lj8.2 b hb).2; simp only [hn_push]; omega) (fun hx => D0 b hx (by simp [hb]))
 replace o9 := OT.frame (g' := g3) (o9 _) fun b hb => fr3 b (by have := (lj9.2 b hb).2; simp only [hn_push]; omega) (fun hx => D0 b hx (by simp [hb]))
 replace o12 := OT.frame (g' := g3) (o12 _) fun b hb => fr3 b (by have := (lj12.2 b hb).2; simp only [hn_push]; omega) (fun hx => D0 b hx (by simp [hb]))
 replace o13 := OT.frame (g' := g3) (o13 _) fun b hb => fr3 b (by have := (lj13.2 b hb).2; simp only [hn_push]; omega) (fun hx => D0 b hx (by simp [hb]))
 repeat (first | rw [ko] | rw [kr] | simp -dsimp -implicitDefEqProofs only [go_sem, rq1, a3])
 refine wz_intro (markIntSS_tree (o4) (bl1.wide (Nat.le_refl _) (by omega)) ⟨by omega, by omega⟩) ?_
 rintro _ g4 ⟨k2, z4, rfl, lo4, hi4, d4, hd4, n4, fr4⟩
 have a4 : hg g4 (hn h .mk) .mk = _ := fr4 (hn h .mk) (by omega) (fun hb => by have := (bl1.2 _ hb).2; omega)
 replace a4 : hg g4 (hn h .mk) .mk = hg g3 (hn h .mk) .mk := a4
 simp -dsimp -implicitDefEqProofs only [go_sem, a3] at a4
 replace d3 := OT.frame (g' := g4) d3 fun b hb => fr4 b (by have := (lj3.2 b hb).2; omega) (fun hx => D0 b (by simp [hb]) (by first | (simp [hx]; done) | (simp only [List.mem_append] at hx ⊢; rcases hx with hx | hx <;> simp [hx])))
 replace o5 := OT.frame (g' := g4) (o5) fun b hb => fr4 b (by have := (lj5.2 b hb).2; omega) (fun hx => D1 b hx (by simp [hb]))
 replace o6 := OT.frame (g' := g4) (o6) fun b hb => fr4 b (by have := (lj6.2 b hb).2; omega) (fun hx => D1 b hx (by simp [hb]))
 replace o8 := OT.frame (g' := g4) (o8) fun b hb => fr4 b (by have := (lj8.2 b hb).2; omega) (fun hx => D1 b hx (by simp [hb]))
 replace o9 := OT.frame (g' := g4) (o9) fun b hb => fr4 b (by have := (lj9.2 b hb).2; omega) (fun hx => D1 b hx (by simp [hb]))
 replace o12 := OT.frame (g' := g4) (o12) fun b hb => fr4 b (by have := (lj12.2 b hb).2; omega) (fun hx => D1 b hx (by simp [hb]))
 replace o13 := OT.frame (g' := g4) (o13) fun b hb => fr4 b (by have := (lj13.2 b hb).2; omega) (fun hx => D1 b hx (by simp [hb]))
 repeat (first | rw [ko] | rw [kr] | simp -dsimp -implicitDefEqProofs only [go_sem, rq1, a4])
 refine wz_intro (markLayerS_tree (o5) (bl2.wide (Nat.le_refl _) (by omega)) ⟨by omega, by omega⟩) ?_
 rintro _ g5 ⟨k3, z5, rfl, lo5, hi5, d5, hd5, n5, fr5⟩
 have a5 : hg g5 (hn h .mk) .mk = _ := fr5 (hn h .mk) (by omega) (fun hb => by have := (bl2.2 _ hb).2; omega)
 replace a5 : hg g5 (hn h .mk) .mk = hg g4 (hn h .mk) .mk := a5
 simp -dsimp -implicitDefEqProofs only [go_sem, a4] at a5
 replace d3 := OT.frame (g' := g5) d3 fun b hb => fr5 b (by have := (lj3.2 b hb).2; omega) (fun hx => D0 b (by simp [hb]) (by first | (simp [hx]; done) | (simp only [List.mem_append] at hx ⊢; rcases hx with hx | hx <;> simp [hx])))
 replace d4 := OT.frame (g' := g5) d4 fun b hb => fr5 b (by have := (lj4.2 b hb).2; omega) (fun hx => D1 b (by simp [hb]) (by first | (simp [hx]; done) | (simp only [List.mem_append] at hx ⊢; rcases hx with hx | hx <;> simp [hx])))
 replace o6 := OT.frame (g' := g5) (o6) fun b hb => fr5 b (by have := (lj6.2 b hb).2; omega) (fun hx => D2 b hx (by simp [hb]))
 replace o8 := OT.frame (g' := g5) (o8) fun b hb => fr5 b (by have := (lj8.2 b hb).2; omega) (fun hx => D2 b hx (by simp [hb]))
 replace o9 := OT.frame (g' := g5) (o9) fun b hb => fr5 b (by have := (lj9.2 b hb).2; omega) (fun hx => D2 b hx (by simp [hb]))
 replace o12 := OT.frame (g' := g5) (o12) fun b hb => fr5 b (by have := (lj12.2 b hb).2; omega) (fun hx => D2 b hx (by simp [hb]))
 replace o13 := OT.frame (g' := g5) (o13) fun b hb => fr5 b (by have := (lj13.2 b hb).2; omega) (fun hx => D2 b hx (by simp [hb]))
 repeat (first | rw [ko] | rw [kr] | simp -dsimp -implicitDefEqProofs only [go_sem, rq1, a5])
 refine wz_intro (markIntS_tree (o6) (bl3.wide (Nat.le_refl _) (by omega)) ⟨by omega, by omega⟩) ?_
 rintro _ g6 ⟨k4, z6, rfl, lo6, hi6, d6, hd6, n6, fr6⟩
 have a6 : hg g6 (hn h .mk) .mk = _ := fr6 (hn h .mk) (by omega) (fun hb => by have := (bl3.2 _ hb).2; omega)
 replace a6 : hg g6 (hn h .mk) .mk = hg g5 (hn h .mk) .mk := a6
 simp -dsimp -implicitDefEqProofs only [go_sem, a5] at a6
 replace d3 := OT.frame (g' := g6) d3 fun b hb => fr6 b (by have := (lj3.2 b hb).2; omega) (fun hx => D0 b (by simp [hb]) (by first | (simp [hx]; done) | (simp only [List.mem_append] at hx ⊢; rcases hx with hx | hx <;> simp [hx])))
 replace d4 := OT.frame (g' := g6) d4 fun b hb => fr6 b (by have := (lj4.2 b hb).2; omega) (fun hx => D1 b (by simp [hb]) (by first | (simp [hx]; done) | (simp only [List.mem_append] at hx ⊢; rcases hx with hx | hx <;> simp [hx])))
 replace d5 := OT.frame (g' := g6) d5 fun b hb => fr6 b (by have := (lj5.2 b hb).2; omega) (fun hx => D2 b (by simp [hb]) (by first | (simp [hx]; done) | (simp only [List.mem_append] at hx ⊢; rcases hx with hx | hx <;> simp [hx])))
 replace o8 := OT.frame (g' := g6) (o8) fun b hb => fr6 b (by have := (lj8.2 b hb).2; omega) (fun hx => D3 b hx (by simp [hb]))
 replace o9 := OT.frame (g' := g6) (o9) fun b hb => fr6 b (by have := (lj9.2 b hb).2; omega) (fun hx => D3 b hx (by simp [hb]))
 replace o12 := OT.frame (g' := g6) (o12) fun b hb => fr6 b (by have := (lj12.2 b hb).2; omega) (fun hx => D3 b hx (by simp [hb]))
 replace o13 := OT.frame (g' := g6) (o13) fun b hb => fr6 b (by have := (lj13.2 b hb).2; omega) (fun hx => D3 b hx (by simp [hb]))
 repeat (first | rw [ko] | rw [kr] | simp -dsimp -implicitDefEqProofs only [go_sem, rq1, a6])
 refine wz_intro (markMatrix_ok (c := c.head) (o8) (o9) (bl4.wide (Nat.le_refl _) (by omega)) ⟨by omega, by omega⟩) ?_
 rintro _ g7 ⟨k5, z8, z9, rfl, lo7, hi7, ⟨d8, d9⟩, hd7, n7, fr7⟩
 have a7 : hg g7 (hn h .mk) .mk = _ := fr7 (hn h .mk) (by omega) (fun hb => by have := (bl4.2 _ hb).2; omega)
 replace a7 : hg g7 (hn h .mk) .mk = hg g6 (hn h .mk) .mk := a7
 simp -dsimp -implicitDefEqProofs only [go_sem, a6] at a7
 replace d3 := OT.frame (g' := g7) d3 fun b hb => fr7 b (by have := (lj3.2 b hb).2; omega) (fun hx => D0 b (by simp [hb]) (by first | (simp []; done) | (simp only [List.mem_append] at hx ⊢; rcases hx with hx | hx <;> simp [hx])))
 replace d4 := OT.frame (g' := g7) d4 fun b hb => fr7 b (by have := (lj4.2 b hb).2; omega) (fun hx => D1 b (by simp [hb]) (by first | (simp []; done) | (simp only [List.mem_append] at hx ⊢; rcases hx with hx | hx <;> simp [hx])))
 replace d5 := OT.frame (g' := g7) d5 fun b hb => fr7 b (by have := (lj5.2 b hb).2; omega) (fun hx => D2 b (by simp [hb]) (by first | (simp []; done) | (simp only [List.mem_append] at hx ⊢; rcases hx with hx | hx <;> simp [hx])))
 replace d6 := OT.frame (g' := g7) d6 fun b hb => fr7 b (by have := (lj6.2 b hb).2; omega) (fun hx => D3 b (by simp [hb]) (by first | (simp []; done) | (simp only [List.mem_append] at hx ⊢; rcases hx with hx | hx <;> simp [hx])))
 replace o12 := OT.frame (g' := g7) (o12) fun b hb => fr7 b (by have := (lj12.2 b hb).2; omega) (fun hx => D4 b hx (by simp [hb]))
 replace o13 := OT.frame (g' := g7) (o13) fun b hb => fr7 b (by have := (lj13.2 b hb).2; omega) (fun hx => D4 b hx (by simp [hb]))
 repeat (first | rw [ko] | rw [kr] | simp -dsimp -implicitDefEqProofs only [go_sem, rq1, a7])
 refine wz_intro (markTurns_ok (c := c.turns) (o12) (o13) (bl5.wide (Nat.le_refl _) (by omega)) ⟨by omega, by omega⟩) ?_
 rintro _ g8 ⟨k6, z12, z13, rfl, lo8, hi8, ⟨d12, d13⟩, hd8, n8, fr8⟩
 have a8 : hg g8 (hn h .mk) .mk = _ := fr8 (hn h .mk) (by omega) (fun hb => by have := (bl5.2 _ hb).2; omega)
 replace a8 : hg g8 (hn h .mk) .mk = hg g7 (hn h .mk) .mk := a8
 simp -dsimp -implicitDefEqProofs only [go_sem, a7] at a8
 replace d3 := OT.frame (g' := g8) d3 fun b hb => fr8 b (by have := (lj3.2 b hb).2; omega) (fun hx => D0 b (by simp [hb]) (by first | (simp [hx]; done) | (simp only [List.mem_append] at hx ⊢; rcases hx with hx | hx <;> simp [hx])))
 replace d4 := OT.frame (g' := g8) d4 fun b hb => fr8 b (by have := (lj4.2 b hb).2; omega) (fun hx => D1 b (by simp [hb]) (by first | (simp [hx]; done) | (simp only [List.mem_append] at hx ⊢; rcases hx with hx | hx <;> simp [hx])))
 replace d5 := OT.frame (g' := g8) d5 fun b hb => fr8 b (by have := (lj5.2 b hb).2; omega) (fun hx => D2 b (by simp [hb]) (by first | (simp [hx]; done) | (simp only [List.mem_append] at hx ⊢; rcases hx with hx | hx <;> simp [hx])))
 replace d6 := OT.frame (g' := g8) d6 fun b hb => fr8 b (by have := (lj6.2 b hb).2; omega) (fun hx => D3 b (by simp [hb]) (by first | (simp [hx]; done) | (simp only [List.mem_append] at hx ⊢; rcases hx with hx | hx <;> simp [hx])))
 replace d8 := OT.frame (g' := g8) d8 fun b hb => fr8 b (by have := (lj8.2 b hb).2; omega) (fun hx => D4 b (by simp [hb]) (by first | (simp [hx]; done) | (simp only [List.mem_append] at hx ⊢; rcases hx with hx | hx <;> simp [hx])))
 replace d9 := OT.frame (g' := g8) d9 fun b hb => fr8 b (by have := (lj9.2 b hb).2; omega) (fun hx => D4 b (by simp [hb]) (by first | (simp [hx]; done) | (simp only [List.mem_append] at hx ⊢; rcases hx with hx | hx <;> simp [hx])))
 repeat (first | rw [ko] | rw [kr] | simp -dsimp -implicitDefEqProofs only [go_sem])
 refine ⟨k6, z3, z4, z5, z6, z8, z9, z12, z13, rfl, by omega, by omega, ⟨d3, d4, d5, d6, d8, d9, d12, d13⟩, heldModel_ok hd3 hd4 hd5 hd6 hd7 hd8 (by omega) (by omega) (by omega) (by omega) (by omega) (by omega), by omega, fun b hb hnb => ?_⟩
 replace hnb : b ∉ (b3 ++ (b4 ++ (b5 ++ (b6 ++ ((b8 ++ b9) ++ (b12 ++ b13)))))) := by simpa only [List.append_assoc] using hnb
 simp only [List.mem_append, not_or] at hnb
 rw [fr8 b (by omega) (by simp [hnb.2.2.2.2.2])]
 rw [fr7 b (by omega) (by simp [hnb.2.2.2.2.1])]
 rw [fr6 b (by omega) hnb.2.2.2.1]
 rw [fr5 b (by omega) hnb.2.2.1]
 rw [fr4 b (by omega) hnb.2.1]
 rw [fr3 b (by simp only [hn_push]; omega) hnb.1]
 simp only [H2.push]; rw [if_neg (by unfold hn at hb; omega)]
end Go.Bi
end
