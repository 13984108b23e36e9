/- An ask that is right comes back from its bytes, and bytes that are one are the bytes of it. -/
import Derived.Test.YtjofbadmkigkjaaJe
import Derived.Test.YtjofbadmkigkjaaDe
set_option linter.unusedSimpArgs false
set_option linter.unusedVariables false
namespace Go.Bi
open Go.Proofs
theorem back_fin {a : LAsk} (h : askOkB a = true) (h1 : (ask0 (askS a)).1 = a) (h2 : Lft (askS a) (ask0 (askS a)).2 []) : readAsk (askS a) = (a, true) := by
  obtain ⟨b1, b2, b3⟩ := h2
  have hp : (ask0 (askS a)).2.p = (askS a).size := by
    have := congrArg List.length b3
    rw [List.length_drop, lst_len] at this
    simp at this; omega
  have hq : okQ (askS a) (ask0 (askS a)) = true := by
    rw [okQ, b1, h1, hp, h]; simp
  rw [readAsk, if_pos hq, h1]
theorem nilLs {α : Type} {l : List α} (h : (l.length : Int) = 0) : l = [] := List.length_eq_zero_iff.1 (by omega)
theorem nilTx {s : ByteArray} (h : emptyT s = true) : s = ⟨#[]⟩ := by
  unfold emptyT at h
  rw [toList_lst, toList_lst] at h
  exact lst_inj (beq_iff_eq.1 h)
theorem noCfg_eq {c : LConfig} (h : noCfg c = true) : c = zCfg := by
  obtain ⟨a, b, d, l⟩ := c
  simp only [noCfg, Bool.and_eq_true, decide_eq_true_eq] at h
  obtain ⟨rfl, rfl, rfl, h4⟩ := h
  rw [nilLs h4]; rfl
theorem readAsk_back {a : LAsk} (h : askOkB a = true) : readAsk (askS a) = (a, true) := by
  have hs : askS a = askT a := by rw [askS, if_pos h]
  have h0 : ∀ bs, lst (askS a) = bs → Lft (askS a) ⟨0, false⟩ bs := fun bs e => ⟨rfl, Nat.zero_le _, by rw [← e]; rfl⟩
  by_cases p1 : a.op = 1
  · have hb := h
    simp only [askOkB, p1, ↓reduceIte, Bool.and_eq_true, decide_eq_true_eq] at hb
    obtain ⟨hc, ht, hpos, hpk⟩ := hb
    have cf := cfg_facts hc
    simp only [cfgOk, Bool.and_eq_true, decide_eq_true_eq, inI_iff] at hc
    obtain ⟨c1, c2, c3, c4, c5⟩ := hc
    have l0 := h0 (1 :: (lst (shortT a.text) ++ (UInt8.ofNat (a.config.top % 256).toNat :: (varN a.config.seed.toNat ++ (UInt8.ofNat (a.config.new % 256).toNat :: (UInt8.ofNat ((a.config.stops.length : Int) % 256).toNat :: (a.config.stops.flatMap (fun t => lst (shortT t)) ++ []))))))) (by
      rw [hs, askT, if_pos p1, foldl_short]
      simp only [lst_app, lst_byteT, lst_varT, List.append_assoc, List.cons_append, List.nil_append, List.append_nil]
      rfl)
    obtain ⟨e0, l0⟩ := one_lft l0
    obtain ⟨e1, l1⟩ := short_lft (by omega) l0
    obtain ⟨e2, l2⟩ := one_lft l1
    obtain ⟨e3, l3, _⟩ := num_lft (by omega) l2
    obtain ⟨e4, l4⟩ := one_lft l3
    obtain ⟨e5, l5⟩ := one_lft l4
    rw [u8_of (by omega)] at e2 e4 e5
    have hsz : ∀ t ∈ a.config.stops, t.size ≤ 12000 := fun t ht => by
      obtain ⟨i, hi, rfl⟩ := List.getElem_of_mem ht
      have := cf.2.2.2 i hi
      rw [List.getD_eq_getElem?_getD, List.getElem?_eq_getElem hi] at this
      simp only [Option.getD_some] at this; omega
    obtain ⟨e6, l6⟩ := shorts_lft hsz l5 a.config.stops.length (Nat.le_refl _)
    have e0' : (oneP (askS a) ⟨0, false⟩).1 = 1 := e0
    rw [List.drop_length] at l6
    rw [List.take_length] at e6
    refine back_fin h ?_ ?_
    · rw [ask0, e0', askP, if_pos rfl]
      simp only [ask1P, e1, e2, e3, e4, e5, Int.toNat_natCast, e6]
      obtain ⟨op, text, pos, ⟨top, seed, new, stops⟩, picks⟩ := a
      simp only at p1 hpos hpk c2 ⊢
      rw [p1, hpos, nilLs hpk, Int.toNat_of_nonneg c2.1]
    · rw [ask0, e0', askP, if_pos rfl]
      simp only [ask1P, e5, Int.toNat_natCast]
      exact l6
  by_cases p2 : a.op = 2
  · have hb := h
    simp only [askOkB, p2, ↓reduceIte, Int.reduceEq, Bool.and_eq_true, decide_eq_true_eq, inI_iff] at hb
    obtain ⟨hpos, hse, hne, htop, hst, htx, hpk⟩ := hb
    have l0 := h0 (2 :: (UInt8.ofNat (a.pos % 256).toNat :: (varN a.config.seed.toNat ++ (UInt8.ofNat (a.config.new % 256).toNat :: [])))) (by
      rw [hs, askT, if_neg p1, if_pos p2]
      simp only [lst_app, lst_byteT, lst_varT, List.append_assoc, List.cons_append, List.nil_append, List.append_nil]
      rfl)
    obtain ⟨e0, l0⟩ := one_lft l0
    obtain ⟨e1, l1⟩ := one_lft l0
    obtain ⟨e2, l2, _⟩ := num_lft (by omega) l1
    obtain ⟨e3, l3⟩ := one_lft l2
    rw [u8_of (by omega)] at e1 e3
    have e0' : (oneP (askS a) ⟨0, false⟩).1 = 2 := e0
    refine back_fin h ?_ ?_
    · rw [ask0, e0', askP, if_neg (by decide), if_pos rfl]
      simp only [ask2P, e1, e2, e3]
      obtain ⟨op, text, pos, ⟨top, seed, new, stops⟩, picks⟩ := a
      simp only at p2 hpos hpk hse htop hst htx ⊢
      rw [p2, htop, nilLs hpk, nilLs hst, nilTx htx, Int.toNat_of_nonneg hse.1]
    · rw [ask0, e0', askP, if_neg (by decide), if_pos rfl]
      exact l3
  by_cases p5 : a.op = 5
  · have hb := h
    simp only [askOkB, p5, ↓reduceIte, Int.reduceEq, Bool.and_eq_true, decide_eq_true_eq, or_self, allI, List.all_eq_true, inI_iff] at hb
    obtain ⟨hln, hal, htx, hcf, hpos⟩ := hb
    have l0 := h0 (5 :: (UInt8.ofNat ((a.picks.length : Int) % 256).toNat :: (a.picks.map (fun z => UInt8.ofNat (z % 256).toNat) ++ []))) (by
      rw [hs, askT, if_neg p1, if_neg p2, if_pos p5, foldl_byte]
      simp only [lst_app, lst_byteT, lst_varT, List.append_assoc, List.cons_append, List.nil_append, List.append_nil]
      rfl)
    obtain ⟨e0, l0⟩ := one_lft l0
    obtain ⟨e1, l1⟩ := one_lft l0
    rw [u8_of (by omega)] at e1
    obtain ⟨e2, l2⟩ := ones_lft hal l1 a.picks.length (Nat.le_refl _)
    have e0' : (oneP (askS a) ⟨0, false⟩).1 = 5 := e0
    rw [List.drop_length] at l2
    rw [List.take_length] at e2
    refine back_fin h ?_ ?_
    · rw [ask0, e0', askP, if_neg (by decide), if_neg (by decide), if_pos rfl]
      simp only [e1, Int.toNat_natCast, e2]
      obtain ⟨op, text, pos, c, picks⟩ := a
      simp only at p5 hpos htx hcf ⊢
      rw [p5, hpos, nilTx htx, noCfg_eq hcf]
    · rw [ask0, e0', askP, if_neg (by decide), if_neg (by decide), if_pos rfl]
      simp only [e1, Int.toNat_natCast]
      exact l2
  · have hb := h
    have hop : a.op = 3 ∨ a.op = 4 ∨ a.op = 6 := by
      by_cases hop : a.op = 3 ∨ a.op = 4 ∨ a.op = 6
      · exact hop
      · rw [askOkB, if_neg p1, if_neg p2, if_neg hop, if_neg p5] at h; cases h
    rw [askOkB, if_neg p1, if_neg p2, if_pos hop] at hb
    simp only [Bool.and_eq_true, decide_eq_true_eq, inI_iff] at hb
    obtain ⟨hpos, htx, hcf, hpk⟩ := hb
    have l0 := h0 (UInt8.ofNat (a.op % 256).toNat :: (UInt8.ofNat (a.pos % 256).toNat :: [])) (by
      rw [hs, askT, if_neg p1, if_neg p2, if_neg p5]
      simp only [lst_app, lst_byteT, lst_varT, List.append_assoc, List.cons_append, List.nil_append, List.append_nil])
    obtain ⟨e0, l0⟩ := one_lft l0
    obtain ⟨e1, l1⟩ := one_lft l0
    rw [u8_of (by omega)] at e0 e1
    refine back_fin h ?_ ?_
    · rw [ask0, e0, askP, if_neg p1, if_neg p2, if_neg p5, e1]
      obtain ⟨op, text, pos, c, picks⟩ := a
      simp only at hpos htx hcf hpk ⊢
      rw [nilLs hpk, nilTx htx, noCfg_eq hcf]
    · rw [ask0, e0, askP, if_neg p1, if_neg p2, if_neg p5]
      exact l1
theorem readAsk_of {t : ByteArray} (h : (readAsk t).2 = true) : askS (readAsk t).1 = t := by
  unfold readAsk at h ⊢
  split at h
  · rename_i hq
    rw [if_pos hq]
    simp only [okQ, Bool.and_eq_true, beq_iff_eq] at hq
    have := hq.2.2.2
    rw [toList_lst, toList_lst] at this
    exact lst_inj this
  · cases h
theorem shorts_sz {ss : List ByteArray} (h : ∀ s ∈ ss, s.size ≤ 9) : (ss.flatMap (fun t => lst (shortT t))).length ≤ 19 * ss.length := by
  induction ss with
  | nil => simp
  | cons t ss ih =>
    have h1 := shortT_size t
    have h2 := h t (by simp)
    have := ih fun s hs => h s (by simp [hs])
    rw [List.flatMap_cons, List.length_append, lst_len, List.length_cons]; omega
theorem askS_size {a : LAsk} (h1 : a.text.size ≤ 100) (h2 : a.config.stops.length ≤ 4) (h3 : ∀ s ∈ a.config.stops, s.size ≤ 9) (h4 : a.picks.length ≤ 100) : (askS a).size ≤ 4000000000 := by
  unfold askS
  split
  · rename_i h
    unfold askT
    split
    · rename_i p1
      have hb := ask1 h p1
      have cf := cfg_facts hb.2
      have := shorts_sz h3
      have := varT_size a.config.seed.toNat
      have := shortT_size a.text
      rw [← lst_len, foldl_short]
      simp only [lst_app, List.length_append, lst_byteT, List.length_singleton]
      simp only [lst_len] at *
      omega
    · split
      · rename_i p1 p2
        have hb := ask2 h p2
        have := varT_size a.config.seed.toNat
        rw [← lst_len]
        simp only [lst_app, List.length_append, lst_byteT, List.length_singleton]
        simp only [lst_len] at *
        omega
      · split
        · rw [← lst_len, foldl_byte]
          simp only [lst_app, List.length_append, lst_byteT, List.length_singleton, List.length_map]
          omega
        · rw [← lst_len]
          simp only [lst_app, List.length_append, lst_byteT, List.length_singleton]
          omega
  · show 0 ≤ _; omega
end Go.Bi
