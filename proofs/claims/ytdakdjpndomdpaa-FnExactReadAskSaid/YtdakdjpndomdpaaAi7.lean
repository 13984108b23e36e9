/- The abstract machine, part 7: conversions, append, make, parts; and all of it in one theorem about an operation that calls no Go function. Nothing about the program stands here. -/
import Derived.Test.YtdakdjpndomdpaaAi6
set_option linter.unusedVariables false
set_option linter.unusedSimpArgs false
namespace Go.Ai
variable {P : Program} {W0 : World} {ι : Ren} {h : Heap} {w w' : World}

/-! ### Conversions -/
theorem src_sound (s : Sim P W0 ι h w) {sz n : Nat} {x x' : Value} {l : List Value} (hv : srcV h sz x = some (n, l)) (r : R ι x x') :
    ∃ (a' : Option Addr) (cap : Nat) (l' : List Value), x' = .slice a' n cap ∧ l'.length = n * sz ∧ l.length = n * sz ∧ All2 (RS ι) l l' ∧
      ((a' = none ∧ n = 0 ∧ l' = []) ∨ ∃ ad, a' = some ad ∧ ∀ (j : Nat) (v : Value), l'[j]? = some v → w.cell? (ad.add j) = some v) := by
  unfold srcV at hv
  split at hv
  · cases hv
    obtain ⟨rfl, rfl, rfl⟩ := r
    exact ⟨none, 0, [], rfl, by simp, by simp, .nil, .inl ⟨rfl, rfl, rfl⟩⟩
  · rename_i a m _
    obtain ⟨c, cap, off, hc, hs, hl, ho, hN, rfl⟩ := r
    split at hv
    · rename_i k hk
      cases hl : rd k.cs a.off (m * sz) with
      | none => rw [hl] at hv; cases hv
      | some l0 =>
        rw [hl] at hv; simp at hv; obtain ⟨rfl, rfl⟩ := hv
        obtain ⟨l', h1, h2, h3, h4⟩ := s.stretch hk hc hl
        refine ⟨_, cap, l', rfl, h1, h2, h3, .inr ⟨_, rfl, fun j v hv => ?_⟩⟩
        have hpos : 0 < m := by
          have := (List.getElem?_eq_some_iff.1 hv).1
          rw [h1] at this
          cases m with
          | zero => simp at this
          | succ m => omega
        rw [add_off, ho (.inl hpos)]
        exact h4 j v hv
    · split at hv
      · rename_i hm; subst hm; cases hv
        exact ⟨_, cap, [], rfl, by simp, by simp, .nil, .inr ⟨_, rfl, fun j v hv => by simp at hv⟩⟩
      · cases hv
  · cases hv

theorem push_bytes (f : Int → UInt8) : ∀ (ns : List Int) (acc : Array UInt8), ns.foldl (fun (r : ByteArray) n => r.push (f n)) ⟨acc⟩ = ⟨acc ++ (ns.map f).toArray⟩
  | [], acc => by simp
  | n :: ns, acc => by
    rw [List.foldl_cons, show (ByteArray.mk acc).push (f n) = ⟨acc.push (f n)⟩ from rfl, push_bytes f ns]
    congr 1
    apply Array.ext'
    simp

theorem bytesL_info : ∀ {l : List Value} {bs : List UInt8}, bytesL l = some bs → ∃ ns : List Int, l = ns.map (.int .u8) ∧ bs = ns.map fun n => UInt8.ofNat n.toNat
  | [], bs, hb => by simp [bytesL] at hb; subst hb; exact ⟨[], rfl, rfl⟩
  | v :: l, bs, hb => by
    simp only [bytesL] at hb
    split at hb
    · rename_i b r hv hr
      cases hb
      obtain ⟨ns, rfl, rfl⟩ := bytesL_info hr
      unfold byteV at hv
      split at hv
      · rename_i n; cases hv; exact ⟨n :: ns, rfl, rfl⟩
      · cases hv
    · cases hb

theorem All2.ints : ∀ {ns : List Int} {m : List Value}, All2 (RS ι) (ns.map (.int .u8)) m → m = ns.map (.int .u8)
  | [], _, .nil => rfl
  | n :: ns, _, .cons a b => by rw [All2.ints b]; rw [show _ = Value.int .u8 n from a]; rfl

theorem conv_sound (s0 : Sim P W0 ι h w) {s d : TypeId} {x x' v : Value} {h' : Heap} (hv : convV P h s d x = some (v, h')) (r : R ι x x') :
    ∃ ι' w' v', (convert s d x').run P w = .ok v' w' ∧ ι.le ι' ∧ Sim P W0 ι' h' w' ∧ R ι' v v' := by
  unfold convV at hv
  split at hv
  · rename_i k k' kk n hs hd
    cases hv
    obtain rfl := (show x' = _ from r)
    refine ⟨ι, w, _, ?_, Ren.le_refl _, s0, rfl⟩
    simp [convert, run_underlying (cls_int hs), run_underlying (cls_int hd), Conv.intToInt]
  · rename_i b hs hd
    cases hv
    obtain rfl := (show x' = _ from r)
    refine ⟨ι, w, .string b, ?_, Ren.le_refl _, s0, rfl⟩
    simp [convert, run_underlying (cls_str hs), run_underlying (cls_str hd)]
  · rename_i hs hd
    split at hv
    · rename_i e _ _ l he hsrc
      split at hv
      · rename_i bs he8 hbs
        cases hv
        obtain ⟨hu, inf, hinf, hsz, _⟩ := elt_info he
        obtain ⟨a', cap, l', rfl, hl1, hl2, ha, hcase⟩ := src_sound s0 hsrc r
        obtain ⟨ns, rfl, rfl⟩ := bytesL_info hbs
        have hl' := ha.ints
        subst hl'
        refine ⟨ι, w, .string ⟨(ns.map fun (n : Int) => UInt8.ofNat n.toNat).toArray⟩, ?_, Ren.le_refl _, s0, rfl⟩
        rw [run_convert_bytes_string w s d e _ _ _ hu (cls_int he8) (cls_str hd)]
        rcases hcase with ⟨rfl, rfl, hnil⟩ | ⟨ad, rfl, hcells⟩
        · simp at hnil; subst hnil
          simp [Conv.bytesToString]; rfl
        · have hld := run_loadCells_list (P := P) w ad (ns.map (Value.int .u8)) hcells
          rw [hl1, Nat.mul_one] at hld
          rw [run_bytesToString w ad _ cap ns hld]
          rw [show ByteArray.empty = ⟨#[]⟩ from rfl, push_bytes]
          simp
      · cases hv
    · cases hv
  · rename_i b hs hd
    split at hv
    · rename_i e he
      split at hv
      · rename_i he8
        split at hv
        · rename_i hsmall
          cases hv
          obtain rfl := (show x' = _ from r)
          obtain ⟨hu, inf, hinf, hsz, _⟩ := elt_info he
          let cap := (Question.appendCap b.size 0 e).cut (w.tape w.drawn (.appendCap b.size 0 e))
          have hcap : b.size ≤ cap := by simp only [cap, Question.cut]; omega
          let cells : Array Value := (b.data.map fun x => Value.int .u8 x.toNat) ++ Array.replicate (cap - b.size) (.int .u8 0)
          have hcs : cells.size = cap := by simp only [cells, Array.size_append, Array.size_map, Array.size_replicate]; have : b.data.size = b.size := rfl; omega
          have hp := s0.push (w' := (w.drew.alloc (.cells cells e)).freeze ⟨w.heap.size, cells.size, none⟩ 1) (k := ⟨true, 1, b.data.toList.map fun x => .int .u8 x.toNat⟩) (cs' := cells) (ty := e) (fr := (cells.size, cells.size + 1)) rfl
            (by rw [hcs]; simpa using hcap) (fun j x hx => by
              have hlt := (List.getElem?_eq_some_iff.1 hx).1
              simp at hlt
              refine ⟨x, ?_, ?_⟩
              · simp only [cells]
                rw [Array.getElem?_append_left (by simpa using hlt)]
                simpa using hx
              · simp at hx; obtain ⟨y, _, rfl⟩ := hx; rfl) (fun o ho => by simp; omega)
            (by
              simp only [World.freeze, World.alloc, World.drew]
              rw [if_neg (by decide)]
              apply Array.ext_getElem?
              intro i
              simp only [Array.getElem?_modify, Array.getElem?_push]
              by_cases hi : i = w.heap.size
              · subst hi; simp
              · simp [hi, Ne.symm hi])
          refine ⟨_, _, _, ?_, s0.le_new _ _, hp, RS.toR ⟨w.heap.size, cap, 0, by simp [Ren.new], rfl, hcap, fun _ => rfl, fun N z hz => by simp [Ren.new] at hz; obtain ⟨rfl, rfl⟩ := hz; omega, rfl⟩⟩
          have hsh : (w.drew.alloc (.cells cells e)).shape? w.heap.size = some (e, cells.size) := by
            unfold World.shape?; rw [show (w.drew.alloc (.cells cells e)).heap[w.heap.size]? = some (.cells cells e (0, 0)) from by show (w.heap.push _)[w.heap.size]? = _; simp]
          have r1 : (choose (.appendCap b.size 0 e)).run P w = .ok cap w.drew := rfl
          have r2 : (newRow e cells).run P w.drew = .ok ⟨w.heap.size, 0, none⟩ (w.drew.alloc (.cells cells e)) := rfl
          have r3 : (markStringish ⟨w.heap.size, 0, none⟩).run P (w.drew.alloc (.cells cells e)) = .ok () ((w.drew.alloc (.cells cells e)).freeze ⟨w.heap.size, cells.size, none⟩ 1) := by
            unfold markStringish
            rw [Sem.run_bind, show (shape w.heap.size).run P (w.drew.alloc (.cells cells e)) = .ok (some (e, cells.size)) (w.drew.alloc (.cells cells e)) from by rw [← hsh]; rfl, Result.andThen_ok]
            rfl
          simp only [convert, run_underlying (cls_str hs), run_underlying hu, run_underlying (cls_int he8), Sem.run_bind, Result.andThen_ok, Conv.stringToBytes, r1]
          show ((newRow e cells).run P w.drew).andThen _ = _
          rw [r2, Result.andThen_ok, r3, Result.andThen_ok]
          rfl
        · cases hv
      · cases hv
    · cases hv
  · cases hv

end Go.Ai
