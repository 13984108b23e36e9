/- An ask that is right comes back from its bytes: plain. -/
import Derived.Test.YtjofbadmkigkjaaEg
set_option linter.unusedSimpArgs false
set_option linter.unusedVariables false
namespace Go.Bi
open Go.Proofs
/-- What is left to be read. -/
def Lft (s : ByteArray) (r : Rd) (bs : List UInt8) : Prop := r.bad = false ∧ r.p ≤ s.size ∧ (lst s).drop r.p = bs
theorem lst_inj {s t : ByteArray} (h : lst s = lst t) : s = t := by
  obtain ⟨⟨s⟩⟩ := s
  obtain ⟨⟨t⟩⟩ := t
  simp only [lst] at h
  rw [h]
theorem lst_app {s t : ByteArray} : lst (s ++ t) = lst s ++ lst t := by
  simp [lst, ByteArray.data_append]
theorem drop_cons {α : Type} {l bs : List α} {p : Nat} {x : α} (h : l.drop p = x :: bs) : p < l.length ∧ l[p]? = some x ∧ l.drop (p + 1) = bs := by
  have h1 : p < l.length := by
    by_cases hp : p < l.length
    · exact hp
    · rw [List.drop_eq_nil_of_le (by omega)] at h; cases h
  rw [List.drop_eq_getElem_cons h1] at h
  injection h with h2 h3
  exact ⟨h1, by rw [List.getElem?_eq_getElem h1, h2], h3⟩
theorem drop_app {α : Type} {l xs bs : List α} {p : Nat} (h : l.drop p = xs ++ bs) : l.drop (p + xs.length) = bs := by
  rw [← List.drop_drop, h, List.drop_left]
theorem one_lft {s : ByteArray} {r : Rd} {x : UInt8} {bs : List UInt8} (h : Lft s r (x :: bs)) : (oneP s r).1 = (x.toNat : Int) ∧ Lft s (oneP s r).2 bs := by
  obtain ⟨h1, h2, h3⟩ := h
  obtain ⟨a, b, c⟩ := drop_cons h3
  rw [lst_len] at a
  rw [oneP, if_neg (by rw [h1]; simp; omega)]
  refine ⟨?_, rfl, by simp only; omega, c⟩
  rw [List.getD_eq_getElem?_getD, b]; rfl
theorem u8_of {z : Int} (h : 0 ≤ z ∧ z ≤ 255) : ((UInt8.ofNat (z % 256).toNat).toNat : Int) = z := by rw [UInt8.toNat_ofNat']; omega
theorem rv_small1 {f n : Nat} {bs : List UInt8} (hn : ¬ n > 127) : rv (f + 1) (varN n ++ bs) = some (n, (varN n).length) := by
  have ht : (UInt8.ofNat n).toNat = n := by
    rw [UInt8.toNat_ofNat']; omega
  rw [varN, if_neg hn, List.cons_append, rv, if_pos (by rw [ht]; omega), ht]; rfl
theorem rv_of {bs : List UInt8} : ∀ {f n : Nat}, n < 128 ^ (f + 1) → rv (f + 1) (varN n ++ bs) = some (n, (varN n).length)
  | 0, n, h => rv_small1 (by simp at h; omega)
  | f + 1, n, h => by
    by_cases hn : n > 127
    · have ht : (UInt8.ofNat (n % 128 + 128)).toNat = n % 128 + 128 := by
        rw [UInt8.toNat_ofNat']; omega
      rw [varN, if_pos hn, List.cons_append, rv, if_neg (by rw [ht]; omega), rv_of (by rw [Nat.pow_succ] at h; omega)]
      simp only [ht, List.length_cons]
      congr 2; omega
    · exact rv_small1 hn
theorem num_lft {s : ByteArray} {r : Rd} {n : Nat} {bs : List UInt8} (hn : n ≤ 1000000000) (h : Lft s r (varN n ++ bs)) : (numP s r).1 = (n : Int) ∧ Lft s (numP s r).2 bs ∧ rdV s r.p = some (n, r.p + (varN n).length) := by
  obtain ⟨h1, h2, h3⟩ := h
  have hv : rdV s r.p = some (n, r.p + (varN n).length) := by
    rw [rdV_some h2 (by rw [h3]; exact rv_of (by omega)), if_pos ⟨hn, by rw [h3, List.take_left]⟩]
  have hd := drop_app h3
  have hle : r.p + (varN n).length ≤ s.size := by
    have := congrArg List.length h3
    rw [List.length_drop, List.length_append, lst_len] at this; omega
  unfold numP
  rw [hv, h1]
  exact ⟨rfl, ⟨rfl, hle, hd⟩, rfl⟩
theorem short_lft {s t : ByteArray} {r : Rd} {bs : List UInt8} (hn : t.size ≤ 12000) (h : Lft s r (lst (shortT t) ++ bs)) : (shortP s r).1 = t ∧ Lft s (shortP s r).2 bs := by
  have h' := h
  rw [shortT, lst_app, lst_varT, List.append_assoc] at h
  obtain ⟨e, l, hv⟩ := num_lft (by omega) h
  obtain ⟨h1, h2, h3⟩ := h
  have h4 := drop_app h3
  have h5 := drop_app h4
  have hle : r.p + (varN t.size).length + t.size ≤ s.size := by
    have := congrArg List.length h3
    rw [List.length_drop, List.length_append, List.length_append, lst_len, lst_len] at this; omega
  have ht : s.extract (r.p + (varN t.size).length) (r.p + (varN t.size).length + t.size) = t := by
    apply lst_inj
    rw [lst_extract, h4, show r.p + (varN t.size).length + t.size - (r.p + (varN t.size).length) = (lst t).length by rw [lst_len]; omega, List.take_left]
  unfold shortP rdS
  rw [hv]
  simp only
  rw [if_pos (by omega), h1]
  exact ⟨ht, rfl, hle, h5⟩
theorem shorts_lft {s : ByteArray} {r : Rd} {ss : List ByteArray} {bs : List UInt8} (hn : ∀ t ∈ ss, t.size ≤ 12000) (h : Lft s r (ss.flatMap (fun t => lst (shortT t)) ++ bs)) : ∀ k, k ≤ ss.length → (shorts s k r).1 = ss.take k ∧ Lft s (shorts s k r).2 ((ss.drop k).flatMap (fun t => lst (shortT t)) ++ bs)
  | 0, _ => ⟨rfl, h⟩
  | k + 1, hk => by
    obtain ⟨e, l⟩ := shorts_lft hn h k (by omega)
    rw [List.drop_eq_getElem_cons (show k < ss.length by omega), List.flatMap_cons, List.append_assoc] at l
    obtain ⟨e1, l1⟩ := short_lft (hn _ (List.getElem_mem _)) l
    exact ⟨by rw [shorts, e, e1, List.take_succ_eq_append_getElem (by omega)], l1⟩
theorem ones_lft {s : ByteArray} {r : Rd} {zs : List Int} {bs : List UInt8} (hn : ∀ z ∈ zs, 0 ≤ z ∧ z ≤ 255) (h : Lft s r (zs.map (fun z => UInt8.ofNat (z % 256).toNat) ++ bs)) : ∀ k, k ≤ zs.length → (ones s k r).1 = zs.take k ∧ Lft s (ones s k r).2 ((zs.drop k).map (fun z => UInt8.ofNat (z % 256).toNat) ++ bs)
  | 0, _ => ⟨rfl, h⟩
  | k + 1, hk => by
    obtain ⟨e, l⟩ := ones_lft hn h k (by omega)
    rw [List.drop_eq_getElem_cons (show k < zs.length by omega), List.map_cons, List.cons_append] at l
    obtain ⟨e1, l1⟩ := one_lft l
    have := hn _ (List.getElem_mem (show k < zs.length by omega))
    refine ⟨by rw [ones, e, e1, List.take_succ_eq_append_getElem (by omega)]; rw [u8_of this], l1⟩
theorem foldl_short {ss : List ByteArray} : ∀ {b : ByteArray}, lst (ss.foldl (fun s x => s ++ shortT x) b) = lst b ++ ss.flatMap (fun t => lst (shortT t)) := by
  induction ss with
  | nil => intro b; simp
  | cons t ss ih => intro b; rw [List.foldl_cons, ih, lst_app, List.flatMap_cons, List.append_assoc]
theorem lst_byteT {n : Int} : lst (byteT n) = [UInt8.ofNat (n % 256).toNat] := rfl
theorem foldl_byte {zs : List Int} : ∀ {b : ByteArray}, lst (zs.foldl (fun s n => s ++ byteT n) b) = lst b ++ zs.map (fun z => UInt8.ofNat (z % 256).toNat) := by
  induction zs with
  | nil => intro b; simp
  | cons t ss ih => intro b; rw [List.foldl_cons, ih, lst_app, List.map_cons, lst_byteT, List.append_assoc]; rfl
end Go.Bi
