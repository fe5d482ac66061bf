/- Part 12 of the proof of FnExactBestMap: what it needs. -/
import Derived.Deep.RegionLaw
import Derived.Laws.CopyRow
import Derived.Laws.IdiomCopy
import Derived.Lib.SliceRun
import Derived.Test.YtelglbebffdaaaaKEBestMap3
namespace Go.Proofs.Ytelglbebffdaaaa.X
open Go.RowKit Go.Proofs.YtelglbebffdaaaaW.PrintWords Go.Proofs.YtelglbebffdaaaaW.PrintLast Go.Proofs.YtelglbebffdaaaaW.PrintMore
set_option linter.unusedVariables false
set_option linter.unusedSimpArgs false
abbrev NdI:=S53
def ncells : List NdI → List Value
 | [] => []
 | x :: l => .int .i64 x.f0 :: .int .i64 x.f1 :: ncells l
theorem ncells_len (l : List NdI) : (ncells l).length = l.length * 2:=by
 induction l with
 | nil => rfl
 | cons x l ih => simp only [ncells,List.length_cons,ih];omega
theorem ncells_get (l : List NdI) (j : Nat) (x : NdI) (h : l[j]? = some x) : (ncells l)[j * 2]? = some (.int .i64 x.f0) ∧ (ncells l)[j * 2 + 1]? = some (.int .i64 x.f1):=by
 induction l generalizing j with
 | nil => simp at h
 | cons y l ih =>
  cases j with
  | zero =>
   obtain rfl : y = x:=by simpa using h
   exact ⟨rfl,rfl⟩
  | succ j =>
   have:=ih j (by simpa using h)
   rw [show (j + 1) * 2 = (j * 2 + 1) + 1 by omega]
   exact this
theorem ncells_reps {w : World} {base : Nat} {ok : Nat → Prop} (l : List NdI) : Reps (Kd.M k53 w base ok) 2 l (ncells l):=by
 refine ⟨ncells_len l,fun j x hx => ?_⟩
 have h:=ncells_get l j x hx
 have e : ((ncells l).drop (j * 2)).take 2 = [.int .i64 x.f0,.int .i64 x.f1]:=by
  apply List.ext_getElem?
  intro i
  rw [List.getElem?_take]
  by_cases c : i < 2
  ·rw [if_pos c,List.getElem?_drop]
   rcases Nat.lt_or_ge i 1 with c1 | c1
   ·obtain rfl : i = 0:=by omega
    exact h.1
   ·obtain rfl : i = 1:=by omega
    exact h.2
  ·rw [if_neg c,List.getElem?_eq_none (by simp;omega)]
 rw [e]
 exact k53_mkM w base ok x
theorem reps_ncells {w : World} {base : Nat} {ok : Nat → Prop} {cs : List Value} (l : List NdI) (h : Reps (Kd.M k53 w base ok) 2 l cs) : cs = ncells l:=by
 apply List.ext_getElem?
 intro i
 by_cases c : i < l.length * 2
 ·have hx : l[i / 2]? = some l[i / 2]:=List.getElem?_eq_getElem (by omega)
  have h1:=k53_openM (h.2 (i / 2) _ hx)
  have h2:=ncells_get l (i / 2) _ hx
  have h3 : ∀ k,k < 2 → ((cs.drop (i / 2 * 2)).take 2)[k]? = cs[i / 2 * 2 + k]?:=fun k hk => by rw [List.getElem?_take,if_pos hk,List.getElem?_drop]
  rw [h1] at h3
  rcases Nat.mod_two_eq_zero_or_one i with m | m
  ·have e : i = i / 2 * 2 + 0:=by omega
   rw [e,← h3 0 (by omega)]
   exact h2.1.symm
  ·have e : i = i / 2 * 2 + 1:=by omega
   rw [e,← h3 1 (by omega)]
   exact h2.2.symm
 ·rw [List.getElem?_eq_none (by rw [h.1];omega),List.getElem?_eq_none (by rw [ncells_len];omega)]
structure NR (w : World) (base g cap : Nat) (l : List NdI) : Prop where
 le : base ≤ g
 fits : l.length ≤ cap
 mx : cap ≤ maxLen
 row : ∃ ext,w.heap[g]? = some (.cells (ncells l ++ ext).toArray 53 (0,0)) ∧ (ncells l ++ ext).length = cap * 2
theorem NR.own {w : World} {base g cap : Nat} {l : List NdI} (h : NR w base g cap l) : Kd.R k53 53 w base (fun _ => True) (.slice (some ⟨g,0,none⟩) l.length cap) l:=by
 obtain ⟨ext,h1,h2⟩:=h.row
 refine ⟨fun _ _ => trivial,ncells l,⟨ncells_len l,.inr ⟨g,cap,_,rfl,h.le,h1,h.fits,h.mx,show (ncells l ++ ext).length = cap * 2 from h2,?_⟩⟩,ncells_reps l⟩
 show List.take (l.length * 2) (ncells l ++ ext) = ncells l
 rw [← ncells_len,List.take_left]
theorem NR.of {w : World} {base : Nat} {ok : Nat → Prop} {v : Value} {l : List NdI} (h : Kd.R k53 53 w base ok v l) (hl : 0 < l.length) : ∃ g cap,v = .slice (some ⟨g,0,none⟩) l.length cap ∧ NR w base g cap l:=by
 obtain ⟨_,inner,⟨h1,h2⟩,h3⟩:=h
 obtain rfl:=reps_ncells l h3
 rcases h2 with ⟨_,h0⟩ | ⟨g,cap,cur,rfl,h4,h5,h6,h7,h8,h9⟩
 ·omega
 ·refine ⟨g,cap,rfl,h4,h6,h7,cur.toList.drop (l.length * 2),?_,?_⟩
  ·rw [← h9]
   show _ = some (Obj.cells (List.take (l.length * 2) cur.toList ++ List.drop (l.length * 2) cur.toList).toArray _ _)
   rw [List.take_append_drop]
   exact h5
  ·rw [← h9]
   show (List.take (l.length * 2) cur.toList ++ List.drop (l.length * 2) cur.toList).length = _
   rw [List.take_append_drop]
   exact h8
theorem NR.lt {w : World} {base g cap : Nat} {l : List NdI} (h : NR w base g cap l) : g < w.heap.size:=by
 obtain ⟨ext,h1,_⟩:=h.row
 exact blk_lt h1
theorem NR.keep {w w1 : World} {base g cap : Nat} {l : List NdI} (h : NR w base g cap l) (hb : w1.heap[g]? = w.heap[g]?) : NR w1 base g cap l:=by
 obtain ⟨ext,h1,h2⟩:=h.row
 exact ⟨h.le,h.fits,h.mx,ext,hb.trans h1,h2⟩
theorem NR.cell {w : World} {base g cap : Nat} {l : List NdI} (h : NR w base g cap l) {j : Nat} {x : NdI} (hx : l[j]? = some x) : w.cell? ⟨g,j * 2,none⟩ = some (.int .i64 x.f0) ∧ w.cell? ⟨g,j * 2 + 1,none⟩ = some (.int .i64 x.f1):=by
 obtain ⟨ext,h1,h2⟩:=h.row
 have hj:=(List.getElem?_eq_some_iff.1 hx).1
 have hn:=ncells_len l
 obtain ⟨e0,e1⟩:=ncells_get l j x hx
 refine ⟨(blk_cell h1 _).trans ?_,(blk_cell h1 _).trans ?_⟩
 ·rw [List.getElem?_toArray]
  rw [List.getElem?_append_left (by omega)]
  exact e0
 ·rw [List.getElem?_toArray]
  rw [List.getElem?_append_left (by omega)]
  exact e1
theorem NR.frozen {w : World} {base g cap : Nat} {l : List NdI} (h : NR w base g cap l) (k : Nat) : w.frozen? ⟨g,k,none⟩ = false:=by
 obtain ⟨ext,h1,_⟩:=h.row
 exact blk_frozen h1 k
theorem NR.set {w : World} {base g cap : Nat} {l l' : List NdI} (h : NR w base g cap l) {k : Nat} {v : Value} (hk : k < l.length * 2) (hs : (ncells l).set k v = ncells l') : NR (w.setCell ⟨g,k,none⟩ v) base g cap l':=by
 obtain ⟨ext,h1,h2⟩:=h.row
 have hl : l'.length = l.length:=by
  have:=congrArg List.length hs
  rw [List.length_set,ncells_len,ncells_len] at this
  omega
 refine ⟨h.le,by rw [hl];exact h.fits,h.mx,ext,?_,by rw [List.length_append,← hs,List.length_set,← List.length_append];exact h2⟩
 rw [setCell_eq_setRow w g k _ _ _ v h1,setRow_heap w g _ _ _ _ h1]
 rw [List.setIfInBounds_toArray,List.set_append_left _ _ (by rw [ncells_len];exact hk),hs]
theorem setCells_row {g : Nat} {t : TypeId} : ∀ (vs : List Value) (o : Nat) (cur : List Value) (w : World),w.heap[g]? = some (.cells cur.toArray t (0,0)) → o + vs.length ≤ cur.length → w.setCells g o vs = w.setRow g (cur.take o ++ vs ++ cur.drop (o + vs.length)).toArray
 | [],o,cur,w,hg,hf => by
  simp only [World.setCells,List.append_nil,List.length_nil,Nat.add_zero,List.take_append_drop]
  exact (setRow_self w g _ t _ hg).symm
 | v :: vs,o,cur,w,hg,hf => by
  simp only [World.setCells]
  have h1:=setCell_eq_setRow w g o _ _ _ v hg
  have h2 : (w.setCell ⟨g,o,none⟩ v).heap[g]? = some (.cells (cur.set o v).toArray t (0,0)):=by
   rw [h1,setRow_heap w g _ _ _ _ hg,List.setIfInBounds_toArray]
  rw [setCells_row vs (o + 1) (cur.set o v) _ h2 (by simp at hf ⊢;omega),h1,setRow_setRow]
  congr 2
  exact list_seg_step cur o v vs (by simpa using hf)
end Go.Proofs.Ytelglbebffdaaaa.X
