/- The abstract machine, part 13: more rules for rewriting: operations on rows, structs, texts. Nothing about the program stands here. -/
import Derived.Test.YtdakdjpndomdpaaAi12
set_option linter.unusedVariables false
set_option linter.unusedSimpArgs false
namespace Go.Ai
variable {P : Program} {W0 : World} {D : Rules} {e : Env} {h : Heap} {Q : QT} {K : KT}

def eltT (o : Option (TypeId × Nat × Nat)) : Nat := match o with | some (e, _, _) => e | none => 0
def eltZ (o : Option (TypeId × Nat × Nat)) : Nat := match o with | some (_, z, _) => z | none => 0
def eltB (o : Option (TypeId × Nat × Nat)) : Nat := match o with | some (_, _, b) => b | none => 0
theorem eltT_some {e z b : Nat} : eltT (some (e, z, b)) = e := rfl
theorem eltZ_some {e z b : Nat} : eltZ (some (e, z, b)) = z := rfl
theorem eltB_some {e z b : Nat} : eltB (some (e, z, b)) = b := rfl
def consO (v : Value) (l : Option (List Value)) : Option (List Value) := match l with | some l => some (v :: l) | none => none
theorem consO_some {v : Value} {l : List Value} : consO v (some l) = some (v :: l) := rfl

theorem rd_nil {cs : List Value} : rd cs 0 0 = some [] := by simp [rd]
theorem rd_one {c : Value} {cs : List Value} {n : Nat} : rd (c :: cs) 0 (n + 1) = consO c (rd cs 0 n) := by
  simp only [rd, consO, List.length_cons, Nat.zero_add, List.drop_zero, List.take_succ_cons]
  by_cases hn : n ≤ cs.length
  · rw [if_pos (by omega), if_pos hn]
  · rw [if_neg (by omega), if_neg hn]
theorem rd_skip {c : Value} {cs : List Value} {o n : Nat} : rd (c :: cs) (o + 1) n = rd cs o n := by
  simp only [rd, List.length_cons, List.drop_succ_cons]
  by_cases hn : o + n ≤ cs.length
  · rw [if_pos (by omega), if_pos hn]
  · rw [if_neg (by omega), if_neg hn]
theorem rd_all {cs : List Value} {n : Nat} (hn : cs.length = n) : rd cs 0 n = some cs := by subst hn; simp [rd]
theorem wrt_nil {cs : List Value} : wrt cs 0 [] = some cs := by simp [wrt]
theorem wrt_one {c v : Value} {cs vs : List Value} : wrt (c :: cs) 0 (v :: vs) = consO v (wrt cs 0 vs) := by
  simp only [wrt, consO, List.length_cons, Nat.zero_add, List.take_zero, List.nil_append, List.drop_succ_cons, List.cons_append]
  by_cases hn : vs.length ≤ cs.length
  · rw [if_pos (by omega), if_pos hn]
  · rw [if_neg (by omega), if_neg hn]
theorem wrt_skip {c : Value} {cs vs : List Value} {o : Nat} : wrt (c :: cs) (o + 1) vs = consO c (wrt cs o vs) := by
  simp only [wrt, consO, List.length_cons, List.take_succ_cons, List.cons_append]
  by_cases hn : o + vs.length ≤ cs.length
  · rw [if_pos (by omega), if_pos hn, show o + 1 + vs.length = (o + vs.length) + 1 by omega, List.drop_succ_cons]
  · rw [if_neg (by omega), if_neg hn]
theorem step_some {off n : Nat} {vs cs : List Value} (hn : (vs.length == n) = true) : stepz (some (off, n)) (some vs) cs = wrt cs off vs := by
  simp only [stepz]; rw [if_pos (by simpa using hn)]
theorem fld_map {o n : Nat} {b : Bool} : (Option.map (fun p : Nat × Nat × Bool => (p.1, p.2.1)) (some (o, n, b))) = some (o, n) := rfl

def fldO (o : Option (Nat × Nat × Bool)) : Nat := match o with | some (o, _, _) => o | none => 0
theorem fldO_some {o n : Nat} {b : Bool} : fldO (some (o, n, b)) = o := rfl
def fldN (o : Option (Nat × Nat × Bool)) : Nat := match o with | some (_, n, _) => n | none => 0
theorem fldN_some {o n : Nat} {b : Bool} : fldN (some (o, n, b)) = n := rfl
def posN : Nat → Bool
  | 0 => false
  | _ + 1 => true
theorem posN_S {n : Nat} : posN (n + 1) = true := rfl
theorem fa_ptr {s b off f : Nat} {p : Option Nat} (hn : posN (fldN (fld? P s f)) = true) : fieldAddrV P s (.pointer (some ⟨b, off, p⟩)) f = some (.pointer (some ⟨b, off + fldO (fld? P s f), none⟩)) := by
  unfold fieldAddrV
  cases hf : fld? P s f with
  | none => rw [hf] at hn; simp [fldN, posN] at hn
  | some q =>
    obtain ⟨o, n, g⟩ := q
    rw [hf] at hn
    simp only [fldN] at hn
    match n, hn with
    | n + 1, _ => rfl
    | 0, hn => simp [posN] at hn
def partz (cs : List Value) (q : Option (Nat × Nat × Bool)) : Option Value := match q with | some q => partV cs q | none => none
theorem part_one {cs : List Value} {o n : Nat} : partz cs (some (o, n, false)) = cs[o]? := rfl
theorem part_agg {cs : List Value} {o n : Nat} : partz cs (some (o, n, true)) = ldA (rd cs o n) := by simp only [partz, partV, ldA]; cases rd cs o n <;> rfl
theorem field_agg {s f : Nat} {cs : List Value} : fieldV P s (.agg cs.toArray) f = partz cs (fld? P s f) := by
  unfold fieldV; cases fld? P s f <;> rfl
theorem ia_at {t b off n c : Nat} {p : Option Nat} {k : IntKind} {i : Int} (h1 : (elt? P t).isSome = true) (h2 : 0 ≤ i ∧ i < n) :
    indexAddrV P t (.slice (some ⟨b, off, p⟩) n c) (.int k i) = some (.pointer (some ⟨b, off + i.toNat * eltZ (elt? P t), none⟩)) := by
  unfold indexAddrV
  cases he : elt? P t with
  | none => rw [he] at h1; simp at h1
  | some q => obtain ⟨u, z, y⟩ := q; simp only [if_pos h2, eltZ]
theorem ix_at {t : Nat} {s : ByteArray} {k : IntKind} {i : Int} (hc : cls? P t = some .str) (h0 : 0 ≤ i) (h1 : i.toNat < s.size) :
    indexV P t (.string s) (.int k i) = some (.int .u8 (s[i.toNat]'h1).toNat) := by
  unfold indexV; rw [hc]; simp only [if_pos h0, getElem?_pos s i.toNat h1]
theorem ex_0 {v : Value} {l : List Value} : extractV (.tuple (v :: l).toArray) 0 = some v := by simp [extractV]
theorem ex_S {v : Value} {l : List Value} {n : Nat} : extractV (.tuple (v :: l).toArray) (n + 1) = extractV (.tuple l.toArray) n := by simp [extractV]
theorem len_str {t : TypeId} {s : ByteArray} (hc : cls? P t = some .str) : biz P h .len [t] [.string s] .mk = some (.int .i64 s.size, h) := by
  simp only [biz, builtinV, hc]
theorem len_sl {t : TypeId} {a : Option Addr} {n c : Nat} (hc : cls? P t = some .sl) : biz P h .len [t] [.slice a n c] .mk = some (.int .i64 n, h) := by
  simp only [biz, builtinV, hc]
theorem bi_max {ts : List TypeId} {k : IntKind} {x y : Int} : biz P h .max ts [.int k x, .int k y] .mk = some (.int k (mxI x y), h) := by simp [biz, builtinV, minmaxV]
theorem bi_min {ts : List TypeId} {k : IntKind} {x y : Int} : biz P h .min ts [.int k x, .int k y] .mk = some (.int k (mnI x y), h) := by simp [biz, builtinV, minmaxV]
def clsK (o : Option Cls) : IntKind := match o with | some (.int k) => k | _ => .i64
theorem clsK_int {k : IntKind} : clsK (some (.int k)) = k := rfl
def isI (o : Option Cls) : Bool := match o with | some (.int _) => true | _ => false
theorem isI_int {k : IntKind} : isI (some (.int k)) = true := rfl
theorem cv_int {s d : TypeId} {k : IntKind} {n : Int} (hs : isI (cls? P s) = true) (hd : isI (cls? P d) = true) : convz P h s d (.int k n) .mk = some (.int (clsK (cls? P d)) ((clsK (cls? P d)).wrap n), h) := by
  simp only [convz, convV]
  cases hs' : cls? P s with
  | none => rw [hs'] at hs; simp [isI] at hs
  | some c =>
    cases c <;> (try (rw [hs'] at hs; simp [isI] at hs; done))
    cases hd' : cls? P d with
    | none => rw [hd'] at hd; simp [isI] at hd
    | some c' => cases c' <;> first | rfl | (rw [hd'] at hd; simp [isI] at hd; done)
theorem cv_str {s d : TypeId} {b : ByteArray} (hs : cls? P s = some .str) (hd : cls? P d = some .str) : convz P h s d (.string b) .mk = some (.string b, h) := by
  simp only [convz, convV, hs, hd]
/-- A shift right. -/
def shrI (k : IntKind) (x y : Int) : Int := x.fdiv (2 ^ (min y.toNat k.bits))
def shlI (k : IntKind) (x y : Int) : Int := k.wrap (x * 2 ^ (min y.toNat k.bits))
theorem sh_r {k : IntKind} {x y : Int} (hy : 0 ≤ y) : shiftI .shr k x y = some (.int k (shrI k x y)) := by simp [shiftI, shrI, Int.not_lt.2 hy]
theorem sh_l {k : IntKind} {x y : Int} (hy : 0 ≤ y) : shiftI .shl k x y = some (.int k (shlI k x y)) := by simp [shiftI, shlI, Int.not_lt.2 hy]
theorem s_eql {x y : ByteArray} : binS .eql x y = some (.bool (x.toList == y.toList)) := rfl
theorem s_neq {x y : ByteArray} : binS .neq x y = some (.bool (!(x.toList == y.toList))) := rfl
theorem s_add {x y : ByteArray} (hs : ((x.size + y.size : Nat) : Int) ≤ 9223372036854775807) : binS .add x y = some (.string (x ++ y)) := if_neg (by omega)
theorem b_eql {t : TypeId} {x y : Bool} (hc : cls? P t = some .bool) : binV P .eql t (.bool x) (.bool y) = some (.bool (x == y)) := by simp [binV, eqV, hc]
theorem b_neq {t : TypeId} {x y : Bool} (hc : cls? P t = some .bool) : binV P .neq t (.bool x) (.bool y) = some (.bool (!(x == y))) := by simp [binV, eqV, hc]
theorem ok_all_nil : (([] : List Value).all okCell) = true := rfl
theorem ok_all_cons {v : Value} {l : List Value} : ((v :: l).all okCell) = (okCell v && l.all okCell) := rfl
theorem ok_int {k : IntKind} {n : Int} : okCell (.int k n) = true := rfl
theorem ok_bool {b : Bool} : okCell (.bool b) = true := rfl
theorem ok_str {b : ByteArray} : okCell (.string b) = true := rfl
theorem ok_sl {a : Option Addr} {l c : Nat} : okCell (.slice a l c) = true := rfl
theorem ok_ptr {a : Option Addr} : okCell (.pointer a) = true := rfl
theorem ok_fn {f : Fn} {a b : Array Value} : okCell (.func f a b) = true := rfl
theorem beq_len {n : Nat} : (n == n) = true := by simp

attribute [go_sem] posN_S eltT_some eltZ_some eltB_some consO_some rd_nil rd_one rd_skip wrt_nil wrt_one wrt_skip step_some fld_map fldO_some fldN_some fa_ptr part_one part_agg field_agg ia_at ix_at ex_0 ex_S len_str len_sl bi_max bi_min clsK_int isI_int cv_int cv_str sh_r sh_l s_eql s_neq s_add b_eql b_neq
  ok_all_nil ok_all_cons ok_int ok_bool ok_str ok_sl ok_ptr ok_fn beq_len Option.isSome_some List.getElem?_cons_zero List.getElem?_cons_succ List.length_cons List.length_nil Bool.and_true Bool.true_and Bool.and_self

end Go.Ai
