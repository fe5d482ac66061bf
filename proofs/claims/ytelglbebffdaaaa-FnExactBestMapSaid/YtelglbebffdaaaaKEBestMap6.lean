/- Part 6 of the proof of FnExactBestMap: what it needs. -/
import Derived.WalkKit
import Derived.ProofKit
import Derived.OpenShut
import Derived.ShutString
import Derived.ChangeOld
import Derived.Below
import Derived.Deep.Slices
import Derived.Test.YtelglbebffdaaaaKEBestMap3
import Derived.Test.YtelglbebffdaaaaKEBestMap4
import Derived.Test.YtelglbebffdaaaaKEBestMap5
namespace Go.Proofs.Ytelglbebffdaaaa.Rd
open Go.ChangeShapes Go.WideShapes Go.ChangeAt Go.RowKit Go.Proofs.YtelglbebffdaaaaW.PrintWords
structure Rd (P : Program) (t : TypeId) {α : Type} (d : Kd α) (wf : α → Prop) : Prop where
  size : P.cellsOf t = d.sz
  reads : ∀ {H : Type} {enc : TypeId × Value → H} {w : World} {spare : Nat → Bool} {held : Bool} {fuel : Nat} {cs : List Value} {x : DataW H × List MemPlace},
    DataW.trod enc P w 0 spare held fuel t cs = some x → ∃ y,d.K w y cs ∧ wf y
theorem rd_int {P : Program} {t : TypeId} {k : IntKind} (ht : P.underlying t = some (.int k)) (hc : P.cellsOf t = 1) : Rd P t (Kd.int k) (fun n => (Lit.int k n).wf = true) :=
  ⟨hc,fun h => by
    obtain ⟨n,rfl,_,hw⟩:=DataW.trod_int ht h
    exact ⟨n,rfl,hw⟩⟩
theorem rd_slice {P : Program} {t e : TypeId} {α : Type} [Inhabited α] {d : Kd α} {wf : α → Prop} (ht : P.underlying t = some (.slice e)) (hc : P.cellsOf t = 1) (h : Rd P e d wf) : Rd P t (Kd.slice e d) (fun xs => xs.length ≤ 9223372036854775807 ∧ ∀ x ∈ xs,wf x) :=
  ⟨hc,fun {H enc w spare held fuel cs x} hx => by
    rcases Go.Deep.open_slice ht hx with ⟨rfl,_⟩ | ⟨a,len,cap,m,n,D,Pl,rfl,_,hl,hm,hmm,_,hel⟩
    · exact ⟨[],⟨none,0,rfl,Nat.le_refl _,rfl,by simp,fun h => absurd h (Nat.lt_irrefl _)⟩,by simp,by simp⟩
    · have hle : len ≤ m:=by rw [hmm];split <;> omega
      obtain ⟨f,hf⟩:=Go.Deep.choose_lt (n:=len) (p:=fun i (y : α) => ∃ cs',w.cells? 0 (a.add (i * P.cellsOf e)) (P.cellsOf e) = some cs' ∧ d.K w y cs' ∧ wf y) (fun i hi => by
        obtain ⟨cs',h1,h2⟩:=hel i (by omega)
        obtain ⟨y,hy,hw⟩:=h.reads h2
        exact ⟨y,cs',h1,hy,hw⟩)
      have hlen : ((List.range len).map f).length = len:=by simp
      refine ⟨(List.range len).map f,⟨some a,cap,by rw [hlen],by rw [hlen];exact hl,?_⟩,by rw [hlen];unfold maxLen at hm;omega,?_⟩
      · refine ⟨rfl,by rw [hlen];unfold maxLen at hm;omega,fun _ => ⟨a,rfl,fun j p hj => ?_⟩⟩
        have hj' : j < len ∧ f j = p:=by
          rw [List.getElem?_map] at hj
          obtain ⟨i,hi,hp⟩:=Option.map_eq_some_iff.1 hj
          have:=List.getElem?_eq_some_iff.1 hi
          obtain ⟨h1,h2⟩:=this
          simp at h1 h2
          subst h2
          exact ⟨h1,hp⟩
        obtain ⟨cs',h1,h2,_⟩:=hf j hj'.1
        rw [hj'.2] at h2
        obtain ⟨_,hn,hcell⟩:=World.cells?_some h1
        refine ⟨cs',d.K_len h2,h2,fun i u hu => ?_⟩
        have hi : i < cs'.length:=(List.getElem?_eq_some_iff.1 hu).1
        have:=hcell i (by omega)
        rw [Go.Deep.add_add,h.size] at this
        rw [this,hu]
      · intro x hx
        obtain ⟨i,hi,rfl⟩:=List.mem_map.1 hx
        obtain ⟨_,_,_,hw⟩:=hf i (by simpa using hi)
        exact hw⟩
structure RdF (P : Program) (o : Nat) (fs : List Field) {α : Type} (d : Kd α) (wf : α → Prop) : Prop where
  reads : ∀ {H : Type} {enc : TypeId × Value → H} {w : World} {spare : Nat → Bool} {held : Bool} {fuel : Nat} {cs : List Value},o + d.sz ≤ cs.length →
    (∀ f ∈ fs,∃ x,DataW.trod enc P w 0 spare held fuel f.type ((cs.drop f.offset).take (P.cellsOf f.type)) = some x) → ∃ y,d.K w y ((cs.drop o).take d.sz) ∧ wf y
theorem rdf_one {P : Program} {o : Nat} {f : Field} {α : Type} {d : Kd α} {wf : α → Prop} (ho : f.offset = o) (h : Rd P f.type d wf) : RdF P o [f] d wf :=
  ⟨fun _ hf => by
    obtain ⟨x,hx⟩:=hf f (by simp)
    rw [ho,h.size] at hx
    exact h.reads hx⟩
theorem rdf_cons {P : Program} {o : Nat} {f : Field} {fs : List Field} {α β : Type} {d : Kd α} {d' : Kd β} {wf : α → Prop} {wf' : β → Prop} (ho : f.offset = o) (h : Rd P f.type d wf) (h' : RdF P (o + d.sz) fs d' wf') :
    RdF P o (f :: fs) (Kd.pair d d') (fun x => wf x.1 ∧ wf' x.2) :=
  ⟨fun {H enc w spare held fuel cs} hl hf => by
    have hl' : o + (d.sz + d'.sz) ≤ cs.length:=hl
    obtain ⟨x,hx⟩:=hf f (by simp)
    rw [ho,h.size] at hx
    obtain ⟨y,hy,hw⟩:=h.reads hx
    obtain ⟨y',hy',hw'⟩:=h'.reads (cs:=cs) (by omega) (fun g hg => hf g (by simp [hg]))
    refine ⟨(y,y'),⟨_,_,?_,hy,hy'⟩,hw,hw'⟩
    show (cs.drop o).take (d.sz + d'.sz) = _
    rw [List.take_add,List.drop_drop]⟩
theorem rd_struct {P : Program} {t : TypeId} {fs : Array Field} {α β : Type} {d : Kd α} {wf : α → Prop} (g : β → α) (ht : P.underlying t = some (.struct fs)) (hc : P.cellsOf t = d.sz) (hg : ∀ y,∃ x,g x = y) (h : RdF P 0 fs.toList d wf) :
    Rd P t (Kd.iso d g) (fun x => wf (g x)) :=
  ⟨hc,fun {H enc w spare held fuel cs x} hx => by
    obtain ⟨xs,n,_,_,hl,hlen,hf⟩:=DataW.trod_struct ht hx
    obtain ⟨y,hy,hw⟩:=h.reads (enc:=enc) (w:=w) (spare:=spare) (held:=held) (fuel:=n) (cs:=cs) (by omega) (fun f hfm => by
      obtain ⟨i,hi,rfl⟩:=List.getElem_of_mem hfm
      have h1 : fs[i]? = some fs[i]:=Array.getElem?_eq_getElem (by simpa using hi)
      have h2:=hf i _ h1
      have h3 : i < xs.length:=by rw [hlen];simpa using hi
      rw [List.getElem?_eq_getElem h3] at h2
      exact ⟨_,h2⟩)
    rw [List.drop_zero,List.take_of_length_le (by omega)] at hy
    obtain ⟨z,rfl⟩:=hg y
    exact ⟨z,hy,hw⟩⟩
theorem own : ownKnob Try.prog.godebug = none:=by kernel_rfl
theorem laidOut : laidOutB Try.prog = true:=by kernel_rfl
end Go.Proofs.Ytelglbebffdaaaa.Rd
namespace Go.Proofs.Ytelglbebffdaaaa.Rd
open Go.ChangeShapes Go.WideShapes Go.ChangeAt Go.RowKit Go.Proofs.YtelglbebffdaaaaW.PrintWords Go.Proofs.Ytelglbebffdaaaa.X
theorem rdt3 : Rd Try.prog 3 (Kd.int .i64) (fun n => (Lit.int .i64 n).wf = true):=rd_int Try.underlying3 (by kernel_rfl)
def WF66 (x : S66) : Prop:=(Lit.int .i64 x.f0).wf = true ∧ (Lit.int .i64 x.f1).wf = true
theorem rdt66 : Rd Try.prog 66 k66 WF66:=rd_struct (fun x : S66 => (x.f0,x.f1)) Try.underlying66 (by kernel_rfl) (fun y => ⟨⟨y.1,y.2⟩,rfl⟩) (rdf_cons rfl rdt3 (rdf_one rfl rdt3))
def WF22 (xs : (List S66)) : Prop:=xs.length ≤ 9223372036854775807 ∧ ∀ x ∈ xs,WF66 x
instance : Inhabited S66:=⟨z66⟩
theorem rdt22 : Rd Try.prog 22 (Kd.slice 66 k66) WF22:=rd_slice Try.underlying22 (by kernel_rfl) rdt66
def WF23 (xs : (List Int)) : Prop:=xs.length ≤ 9223372036854775807 ∧ ∀ x ∈ xs,(Lit.int .i64 x).wf = true
theorem rdt23 : Rd Try.prog 23 (Kd.slice 3 (Kd.int .i64)) WF23:=rd_slice Try.underlying23 (by kernel_rfl) rdt3
structure S25 where
  f0 : (List Int)
  f1 : (List Int)
  f2 : (List Int)
def k25 : Kd S25:=Kd.iso (Kd.pair (Kd.slice 3 (Kd.int .i64)) (Kd.pair (Kd.slice 3 (Kd.int .i64)) (Kd.slice 3 (Kd.int .i64)))) (fun x : S25 => (x.f0,x.f1,x.f2))
theorem k25_open {w : World} {x : S25} {cs : List Value} (h : k25.K w x cs) : ∃ A0 c0 A1 c1 A2 c2,cs = [.slice A0 x.f0.length c0,.slice A1 x.f1.length c1,.slice A2 x.f2.length c2] ∧ x.f0.length ≤ c0 ∧ Kd.C (Kd.int .i64) w A0 x.f0.length x.f0 ∧ x.f1.length ≤ c1 ∧ Kd.C (Kd.int .i64) w A1 x.f1.length x.f1 ∧ x.f2.length ≤ c2 ∧ Kd.C (Kd.int .i64) w A2 x.f2.length x.f2:=by
  obtain ⟨_,_,rfl,⟨A0,c0,rfl,l0,g0⟩,⟨_,_,rfl,⟨A1,c1,rfl,l1,g1⟩,⟨A2,c2,rfl,l2,g2⟩⟩⟩:=h
  exact ⟨A0,c0,A1,c1,A2,c2,rfl,l0,g0,l1,g1,l2,g2⟩
def WF25 (x : S25) : Prop:=WF23 x.f0 ∧ WF23 x.f1 ∧ WF23 x.f2
theorem rdt25 : Rd Try.prog 25 k25 WF25:=rd_struct (fun x : S25 => (x.f0,x.f1,x.f2)) Try.underlying25 (by kernel_rfl) (fun y => ⟨⟨y.1,y.2.1,y.2.2⟩,rfl⟩) (rdf_cons rfl rdt23 (rdf_cons rfl rdt23 (rdf_one rfl rdt23)))
end Go.Proofs.Ytelglbebffdaaaa.Rd
namespace Go.Proofs.Ytelglbebffdaaaa.Q
open Go.RowKit Go.Proofs.YtelglbebffdaaaaW.PrintWords Go.Proofs.YtelglbebffdaaaaW.PrintLast Go.Proofs.YtelglbebffdaaaaW.PrintMore Go.Proofs.Ytelglbebffdaaaa.X Go.Proofs.Ytelglbebffdaaaa.Rd
set_option linter.unusedVariables false
set_option linter.unusedSimpArgs false
theorem wrap_id {x : Int} (h : -9223372036854775808 ≤ x) (h' : x ≤ 9223372036854775807) : wrap64 x = x:=by
  unfold wrap64;omega
theorem wrap_succ {i n : Nat} (h : i < n) (hn : n ≤ 9223372036854775807) : wrap64 ((i : Int) + 1) = ((i + 1 : Nat) : Int):=by
  unfold wrap64;omega
theorem Ev.constOf {α : Type} {o : Option α} {r : α} (h : o = some r) : Ev (fun _ => o) r:=⟨0,fun _ _ => h⟩
theorem Ev.bindC {α β : Type} {o : Option α} {f : Nat → α → Option β} {a : α} {r : β} (h : o = some a) (k : Ev (fun n => f n a) r) : Ev (fun n => o.bind (f n)) r :=
  Ev.bind (Ev.constOf h) k
theorem Ev.ifT {α : Type} {c : Prop} [Decidable c] {g f : Nat → Option α} {r : α} (h : c) (k : Ev g r) : Ev (fun n => if c then g n else f n) r:=by
  simpa only [if_pos h] using k
theorem Ev.ifF {α : Type} {c : Prop} [Decidable c] {g f : Nat → Option α} {r : α} (h : ¬ c) (k : Ev f r) : Ev (fun n => if c then g n else f n) r:=by
  simpa only [if_neg h] using k
theorem ite_dec {α : Type} {p : Prop} [Decidable p] (a b : α) : (if decide p = true then a else b) = if p then a else b:=by
  by_cases h : p <;> simp [h]
theorem getD_nat {α : Type} (xs : List α) (i : Nat) (d : α) (h : i < xs.length) : xs.getD ((i : Int)).toNat d = xs[i]:=by
  rw [Int.toNat_natCast,List.getD_eq_getElem?_getD,List.getElem?_eq_getElem h];rfl
theorem getD_lt {α : Type} (xs : List α) {i : Nat} (d : α) (h : i < xs.length) : xs.getD i d = xs[i]:=by
  rw [List.getD_eq_getElem?_getD,List.getElem?_eq_getElem h];rfl
theorem take_succ_map {α β : Type} (f : α → β) (l : List α) (i : Nat) (h : i < l.length) : (l.take (i + 1)).map f = (l.take i).map f ++ [f l[i]]:=by
  rw [List.take_succ_eq_append_getElem h,List.map_append];rfl
theorem take_succ_append {α : Type} (l : List α) (i : Nat) (h : i < l.length) : l.take (i + 1) = l.take i ++ [l[i]]:=List.take_succ_eq_append_getElem h
theorem mapLoop {A B : Type} (F : Nat → List A → List B → Int → Option (List B)) (g : Nat → A → Option B) (h : A → B) (dA : A)
    (hF : ∀ k x acc i,F (k + 1) x acc i = if i < (x.length : Int) then (if 0 ≤ i then ((g k (x.getD i.toNat dA)).bind fun b => if i < (acc.length : Int) then F k x (acc.set i.toNat b) (wrap64 (i + 1)) else none) else none) else some acc)
    (l : List A) (hl : l.length ≤ 9223372036854775807) (hg : ∀ x ∈ l,Ev (fun k => g k x) (h x)) (d : Nat) : ∀ (i : Nat) (acc : List B),i + d = l.length → acc.length = l.length → acc.take i = (l.take i).map h →
    Ev (fun k => F k l acc i) (l.map h):=by
  induction d with
  | zero =>
    intro i acc hi ha ht
    have : acc = l.map h:=by
      rw [List.take_of_length_le (by omega),List.take_of_length_le (by omega)] at ht
      exact ht
    subst this
    refine Ev.step (f:=fun _ => some (l.map h)) (fun k => ?_) (Ev.now _)
    rw [hF,if_neg (by omega)]
  | succ d ih =>
    intro i acc hi ha ht
    have hlt : i < l.length:=by omega
    have hn:=ih (i + 1) (acc.set i (h l[i])) (by omega) (by simpa using ha) (by
      rw [take_succ_map h l i hlt,take_succ_append _ i (by simp;omega),List.getElem_set_self,List.take_set_of_le (Nat.le_refl i),ht])
    refine Ev.step (f:=fun k => (g k l[i]).bind fun b => F k l (acc.set i b) ((i + 1 : Nat) : Int)) (fun k => ?_) (Ev.bind (hg l[i] (List.getElem_mem hlt)) hn)
    rw [hF,if_pos (by omega),if_pos (by omega),Int.toNat_natCast,getD_lt l _ hlt,wrap_succ hlt hl]
    congr 1
    funext b
    rw [if_pos (by omega)]
theorem mapLoop0 {A B : Type} (F : Nat → List A → List B → Int → Option (List B)) (g : Nat → A → Option B) (h : A → B) (dA : A) (z : B)
    (hF : ∀ k x acc i,F (k + 1) x acc i = if i < (x.length : Int) then (if 0 ≤ i then ((g k (x.getD i.toNat dA)).bind fun b => if i < (acc.length : Int) then F k x (acc.set i.toNat b) (wrap64 (i + 1)) else none) else none) else some acc)
    (l : List A) (hl : l.length ≤ 9223372036854775807) (hg : ∀ x ∈ l,Ev (fun k => g k x) (h x)) : Ev (fun k => F k l (List.replicate l.length z) 0) (l.map h) :=
  mapLoop F g h dA hF l hl hg l.length 0 (List.replicate l.length z) (by omega) (by simp) (by simp)
theorem eqLoop {A : Type} (F : Nat → List A → List A → Int → Option Bool) (e : Nat → A → A → Option Bool) (dA : A)
    (hF : ∀ k x y i,F (k + 1) x y i = if i < (x.length : Int) then (if 0 ≤ i then (if i < (y.length : Int) then ((e k (x.getD i.toNat dA) (y.getD i.toNat dA)).bind fun t => if t = true then F k x y (wrap64 (i + 1)) else some false) else none) else none) else some true)
    (l : List A) (hl : l.length ≤ 9223372036854775807) (he : ∀ x ∈ l,Ev (fun k => e k x x) true) (d : Nat) : ∀ (i : Nat),i + d = l.length → Ev (fun k => F k l l i) true:=by
  induction d with
  | zero =>
    intro i hi
    refine Ev.step (f:=fun _ => some true) (fun k => ?_) (Ev.now _)
    rw [hF,if_neg (by omega)]
  | succ d ih =>
    intro i hi
    have hlt : i < l.length:=by omega
    refine Ev.step (f:=fun k => (e k l[i] l[i]).bind fun t => if t = true then F k l l ((i + 1 : Nat) : Int) else some false) (fun k => ?_) (Ev.bind (he l[i] (List.getElem_mem hlt)) ?_)
    · rw [hF,if_pos (by omega),if_pos (by omega),if_pos (by omega),Int.toNat_natCast,getD_lt l _ hlt,wrap_succ hlt hl]
    · exact Ev.ifT rfl (ih (i + 1) (by omega))
end Go.Proofs.Ytelglbebffdaaaa.Q
namespace Go.Proofs.Ytelglbebffdaaaa.Q
open Go.RowKit Go.Proofs.YtelglbebffdaaaaW.PrintWords Go.Proofs.YtelglbebffdaaaaW.PrintLast Go.Proofs.YtelglbebffdaaaaW.PrintMore Go.Proofs.Ytelglbebffdaaaa.X Go.Proofs.Ytelglbebffdaaaa.Rd
abbrev PairI:=S84
end Go.Proofs.Ytelglbebffdaaaa.Q
namespace Go.Proofs.Ytelglbebffdaaaa.X
open Go.RowKit Go.Proofs.YtelglbebffdaaaaW.PrintWords Go.Proofs.YtelglbebffdaaaaW.PrintLast Go.Proofs.YtelglbebffdaaaaW.PrintMore Go.Proofs.Ytelglbebffdaaaa.Q
set_option linter.unusedVariables false
set_option linter.unusedSimpArgs false
abbrev PX (w : World) (base : Nat) (v : Value) (l : List PairI) : Prop:=Kd.R k84 84 w base (fun _ => True) v l
theorem infoP : (Try.prog.info? 84).map (fun i => (i.zero,i.size,i.bytes)) = some (some (.agg #[.int .i64 0,.int .i64 0]),2,16):=by kernel_rfl
section
variable {ops : Array Oper} {rest : List Oper} {o : Oper} {a : Act} {Q : Exit → Act → World → Prop} {W : World}
theorem zapp (s t : Tmp) (m : Nat) (hm : m ≤ 1000) (k : ∀ v1 w1,PX w1 W.heap.size v1 (List.replicate m ⟨0,0⟩) → Below W.heap.size W w1 → wpList Try.prog ops Q rest (a.put o.dst v1) w1)
  (ho : o.op = .call { callee:=.builtin .append,args:=#[.tmp s,.tmp t],argTypes:=#[43,3] }) (hgd : o.guard = none:=by rfl)
  (hsv : a.eval (.tmp s) = .slice none 0 0:=by rfl) (hx : a.eval (.tmp t) = .int .i64 (m : Int):=by rfl) : wpList Try.prog ops Q (o :: rest) a W:=by
 refine Kd.R_append_zeros k84 W.heap.size hgd (.tmp s) (.tmp t) 43 3 84 (.agg #[(.int .i64 0),(.int .i64 0)]) 16 ho Try.underlying43 Try.underlying3 infoP rfl (by decide) (by omega) (.slice none 0 0) [] (⟨0,0⟩ : PairI) (m : Int) (fun _ => True) hsv hx (k84_mkM _ _ _ _) (fun _ _ => trivial) (Kd.R_nil _ _ _ _ _) (by omega) (Below.refl _ W) (Nat.le_refl _) ?_ ?_
 ·rw [List.length_nil,Int.toNat_natCast];omega
 ·intro v1 w1 h1 h2 _ _
  rw [List.nil_append,Int.toNat_natCast] at h1
  exact k v1 w1 h1 h2
theorem papp (s t : Tmp) {w0 : World} {v : Value} {xs ys : List PairI} {A : Option Addr} {m c : Nat} (hr : PX W w0.heap.size v xs) (hb : Below w0.heap.size w0 W) (hy : Kd.C k84 W A m ys) (hl : xs.length + m ≤ 1000)
  (k : ∀ v1 w1,PX w1 w0.heap.size v1 (xs ++ ys) → Below w0.heap.size w0 w1 → wpList Try.prog ops Q rest (a.put o.dst v1) w1)
  (ho : o.op = .call { callee:=.builtin .append,args:=#[.tmp s,.tmp t],argTypes:=#[43,43] }) (hgd : o.guard = none:=by rfl)
  (hsv : a.eval (.tmp s) = v:=by rfl) (hx : a.eval (.tmp t) = .slice A m c:=by rfl) : wpList Try.prog ops Q (o :: rest) a W:=by
 refine Kd.R_append_rows k84 w0.heap.size hgd (.tmp s) (.tmp t) 43 84 (.agg #[(.int .i64 0),(.int .i64 0)]) 16 ho Try.underlying43 infoP rfl (by decide) (by omega) v xs ys A m c (fun _ => True) (fun _ => False) hsv hx hr hy (fun x cs h => ?_) (fun _ h => h.elim) (fun _ _ => trivial) hb hb.size (by omega) ?_
 ·rw [k84_open h];exact k84_mkM _ _ _ x
 intro v1 w1 h1 h2 h3 _
 exact k v1 w1 h1 h2
theorem papp2 (s t : Tmp) {base : Nat} {v : Value} {xs ys : List PairI} {A : Option Addr} {m c base' : Nat} (hr : PX W base' v xs) (hb : base ≤ W.heap.size) (hy : Kd.C k84 W A m ys) (hl : xs.length + m ≤ 1000)
  (k : ∀ v1 w1,PX w1 base v1 (xs ++ ys) → Below base W w1 → wpList Try.prog ops Q rest (a.put o.dst v1) w1) (hbb : base ≤ base')
  (ho : o.op = .call { callee:=.builtin .append,args:=#[.tmp s,.tmp t],argTypes:=#[43,43] }) (hgd : o.guard = none:=by rfl)
  (hsv : a.eval (.tmp s) = v:=by rfl) (hx : a.eval (.tmp t) = .slice A m c:=by rfl) : wpList Try.prog ops Q (o :: rest) a W:=by
 refine Kd.R_append_rows k84 base hgd (.tmp s) (.tmp t) 43 84 (.agg #[(.int .i64 0),(.int .i64 0)]) 16 ho Try.underlying43 infoP rfl (by decide) (by omega) v xs ys A m c (fun _ => True) (fun _ => False) hsv hx (Kd.R_lower hr hbb) hy (fun x cs h => ?_) (fun _ h => h.elim) (fun _ _ => trivial) (Below.refl _ W) hb (by omega) ?_
 ·rw [k84_open h];exact k84_mkM _ _ _ x
 intro v1 w1 h1 h2 h3 _
 exact k v1 w1 h1 h2
theorem papp1 (s t : Tmp) (x y : Int) {base : Nat} {v : Value} {xs : List PairI} (hr : PX W base v xs) (hb : base ≤ W.heap.size) (hl : xs.length ≤ 1000)
  (k : ∀ v1 w1,PX w1 base v1 (xs ++ [⟨x,y⟩]) → Below base W w1 → wpList Try.prog ops Q rest (a.put o.dst v1) w1)
  (ho : o.op = .call { callee:=.builtin .append,args:=#[.tmp s,.tmp t],argTypes:=#[43,43] }) (hgd : o.guard = none:=by rfl)
  (hsv : a.eval (.tmp s) = v:=by rfl) (hx : a.eval (.tmp t) = .slice (some ⟨W.heap.size,0,none⟩) 1 1:=by rfl) : wpList Try.prog ops Q (o :: rest) a (W.alloc (.cells #[.int .i64 x,.int .i64 y] 84)):=by
 refine Kd.R_append k84 base hgd (.tmp s) (.tmp t) 43 84 (.agg #[(.int .i64 0),(.int .i64 0)]) 16 ho Try.underlying43 infoP rfl (by decide) (by omega) v xs (⟨x,y⟩ : PairI) [.int .i64 x,.int .i64 y] (fun _ => True) (fun _ => False) hsv hx (k84_mkM _ _ _ ⟨x,y⟩) (fun _ h => h.elim) (fun _ _ => trivial) hr (Below.refl _ W) hb (by omega) ?_
 intro v1 w1 h1 h2 h3 h4
 exact k v1 w1 h1 h2
end
set_option maxRecDepth 100000 in
set_option maxHeartbeats 2000000 in
theorem grow_v (W : World) {m : Nat} (hm : m ≤ 1000) : Calls Try.prog 107 #[.slice none 0 0,.int .i64 (m : Int)] W fun e w' => ∃ v,e = .returned v ∧ PX w' W.heap.size v [] ∧ Below W.heap.size W w':=by
 by_cases h : m = 0
 ·subst h
  go_enter Try.func107,Try.ntmps107
  go_wp2
  go_ret
  exact ⟨_,rfl,Kd.R_nil _ _ _ _ _,Below.refl _ _⟩
 ·have b1 : ((m : Int) < 0) = False:=eq_false (by omega)
  have b2 : (0 < m) = True:=eq_true (by omega)
  go_enter Try.func107,Try.ntmps107
  go_upto_region 5 with fail
  go_wp2_with (at_builtin;refine zapp 20 21 m hm ?_ (ho:=rfl);intro v22 w22 h1 hb;obtain ⟨A22,c22,e22⟩:=Kd.R_slice h1;rw [List.length_replicate] at e22;subst e22;have H1:=Aside0.mk h1;have HB:=Aside0.mk hb;clear h1 hb)
  go_ret
  exact ⟨_,rfl,Kd.R_take (m:=0) H1.out (Nat.zero_le _),HB.out⟩
def flatL (L : Nat → List PairI) (q : Nat) : List PairI:=(List.range q).flatMap L
theorem flatL_succ (L : Nat → List PairI) (q : Nat) : flatL L (q + 1) = flatL L q ++ L q:=by
 unfold flatL
 rw [List.range_succ,List.flatMap_append]
 simp
theorem flatL_len {L : Nat → List PairI} {n : Nat} (h : ∀ q,q < n → (L q).length ≤ 100) : ∀ q,q ≤ n → (flatL L q).length ≤ q * 100:=by
 intro q
 induction q with
 | zero => intro _;exact Nat.zero_le _
 | succ q ih =>
  intro hq
  have:=ih (by omega)
  have:=h q (by omega)
  rw [flatL_succ,List.length_append]
  omega
set_option maxRecDepth 100000 in
set_option maxHeartbeats 4000000 in
theorem concat_v (w : World) (g n : Nat) (hn : n ≤ 3) (A : Nat → Option Addr) (L : Nat → List PairI) (C : Nat → Nat) (hc : ∀ q,q < n → w.cell? ⟨g,q,none⟩ = some (.slice (A q) (L q).length (C q))) (hr : ∀ q,q < n → Kd.C k84 w (A q) (L q).length (L q)) (hl : ∀ q,q < n → (L q).length ≤ 100) :
  Calls Try.prog 90 #[.slice (some ⟨g,0,none⟩) n n] w fun e w' => ∃ v,e = .returned v ∧ PX w' w.heap.size v (flatL L n) ∧ Below w.heap.size w w':=by
 have hlen:=flatL_len hl
 have HC:=Aside0.mk (And.intro hc (And.intro hr hlen))
 clear hc hr hl hlen
 go_enter Try.func90,Try.ntmps90
 go_wp2
 go_loopg [3,11] n (fun gg v3 v11 wr => ∃ q : Nat,v3 = .int .i64 ((flatL L q).length : Int) ∧ v11 = .int .i64 (q : Int) ∧ q ≤ n ∧ n - q ≤ gg ∧ Aside0 (Below w.heap.size w wr))
 case atStart => exact ⟨0,rfl,rfl,Nat.zero_le _,Nat.le_refl _,⟨Below.refl _ _⟩⟩
 case round =>
  obtain ⟨q,rfl,rfl,hq1,hgg,HB⟩:=hrel
  by_cases hq : q < n
  ·have z0:=pw_cell_below HB.out (HC.out.1 q hq)
   have h1:=HC.out.2.2 q hq1
   have h2:=HC.out.2.2 (q + 1) (by omega)
   have e1 : (flatL L (q + 1)).length = (flatL L q).length + (L q).length:=by rw [flatL_succ,List.length_append]
   obtain ⟨s0,hs0⟩ : ∃ s,s = (flatL L q).length:=⟨_,rfl⟩
   obtain ⟨s1,hs1⟩ : ∃ s,s = (flatL L (q + 1)).length:=⟨_,rfl⟩
   rw [← hs0] at e1 h1 ⊢
   rw [← hs1] at e1 h2
   have g1 : wrap64 ((s0 : Int) + ((L q).length : Int)) = (s1 : Int):=by unfold wrap64;omega
   have G1:=Aside0.mk g1
   have g2 : wrap64 ((q : Int) + 1) = ((q + 1 : Nat) : Int):=by unfold wrap64;omega
   have G2:=Aside0.mk g2
   have v1 : Value.int .i64 (wrap64 ((s0 : Int) + ((L q).length : Int))) = Value.int .i64 (s1 : Int):=congrArg _ g1
   have b1 : ((q : Int) < (n : Int)) = True:=eq_true (Int.ofNat_lt.2 hq)
   have b2 : (0 ≤ (q : Int)) = True:=eq_true (Int.natCast_nonneg q)
   have b3 : ((s1 : Int) < 0) = False:=eq_false (Int.not_lt.2 (Int.natCast_nonneg s1))
   have HQ:=Aside0.mk (And.intro hq1 (And.intro hgg (And.intro hq hs1)))
   clear hq1 hgg hq h1 h2 e1 hs0 hs1 g1 g2
   go_wp2
   obtain ⟨hq1,hgg,hq,hs1⟩:=HQ.out
   go_roundg (n - (q + 1))
   case measure => omega
   case rel => exact ⟨q + 1,(by rw [← hs1];exact v1),(by first | exact congrArg _ G2.out | exact congrArg _ ((i64_w _).trans G2.out)),by omega,Nat.le_refl _,HB⟩
  ·obtain rfl : q = n:=by omega
   have h1:=HC.out.2.2 q (Nat.le_refl _)
   have b1 : ((q : Int) < (q : Int)) = False:=eq_false (by omega)
   obtain ⟨s0,hs0⟩ : ∃ s,s = (flatL L q).length:=⟨_,rfl⟩
   rw [← hs0] at h1 ⊢
   have HS:=Aside0.mk (show s0 ≤ 1000 by omega)
   clear hq1 hgg hq h1 hs0
   go_wp2_with (go_at_call 107;refine (grow_v wr HS.out).mono ?_;rintro e w24 ⟨v24,rfl,hp,hb⟩;have HP:=Aside0.mk (Kd.R_lower hp HB.out.size);replace HB:=Aside0.mk (below_step HB.out hb);clear hp hb)
   clear b1
   go_loopg [6,27] q (fun gg v6 v27 wr => ∃ p : Nat,v27 = .int .i64 (p : Int) ∧ p ≤ q ∧ q - p ≤ gg ∧ Aside0 (PX wr w.heap.size v6 (flatL L p)) ∧ Aside0 (Below w.heap.size w wr))
   case atStart => exact ⟨0,rfl,Nat.zero_le _,Nat.le_refl _,HP,HB⟩
   case round =>
    clear HP HB
    obtain ⟨p,rfl,hp1,hgg,HP,HB⟩:=hrel
    by_cases hp : p < q
    ·have z0:=pw_cell_below HB.out (HC.out.1 p hp)
     have h2:=HC.out.2.2 (p + 1) (by omega)
     rw [flatL_succ,List.length_append] at h2
     have HL:=Aside0.mk (And.intro (Kd.C_below (HC.out.2.1 p hp) HB.out) (show (flatL L p).length + (L p).length ≤ 1000 by omega))
     have G2:=Aside0.mk (show wrap64 ((p : Int) + 1) = ((p + 1 : Nat) : Int) by unfold wrap64;omega)
     have b1 : ((p : Int) < (q : Int)) = True:=eq_true (by omega)
     have b2 : (0 ≤ (p : Int)) = True:=eq_true (by omega)
     have HQ:=Aside0.mk (And.intro hp1 (And.intro hgg hp))
     clear hp1 hgg hp h2
     go_wp2_with (at_builtin;refine papp 31 32 HP.out HB.out HL.out.1 HL.out.2 ?_ (ho:=rfl);intro v33 w33 h1 hb;replace HP:=Aside0.mk h1;replace HB:=Aside0.mk hb;clear h1 hb HL z0)
     obtain ⟨hp1,hgg,hp⟩:=HQ.out
     go_roundg (q - (p + 1))
     case measure => omega
     case rel => exact ⟨p + 1,(by first | exact congrArg _ G2.out | exact congrArg _ ((i64_w _).trans G2.out)),by omega,Nat.le_refl _,by rw [flatL_succ];exact HP,HB⟩
    ·obtain rfl : p = q:=by omega
     have b1 : ((p : Int) < (p : Int)) = False:=eq_false (by omega)
     clear hp1 hgg hp
     go_wp2
     go_ret
     exact ⟨_,rfl,HP.out,HB.out⟩
theorem concat3 {w : World} {g t : Nat} {A0 A1 A2 : Option Addr} {c0 c1 c2 : Nat} {L0 L1 L2 : List PairI} (hg : w.heap[g]? = some (.cells #[.slice A0 L0.length c0,.slice A1 L1.length c1,.slice A2 L2.length c2] t (0,0)))
  (h0 : Kd.C k84 w A0 L0.length L0) (h1 : Kd.C k84 w A1 L1.length L1) (h2 : Kd.C k84 w A2 L2.length L2) (l0 : L0.length ≤ 100) (l1 : L1.length ≤ 100) (l2 : L2.length ≤ 100) :
  Calls Try.prog 90 #[.slice (some ⟨g,0,none⟩) 3 3] w fun e w' => ∃ v,e = .returned v ∧ PX w' w.heap.size v (L0 ++ (L1 ++ L2)) ∧ Below w.heap.size w w':=by
 have h:=concat_v w g 3 (Nat.le_refl _) (fun | 0 => A0 | 1 => A1 | _ => A2) (fun | 0 => L0 | 1 => L1 | _ => L2) (fun | 0 => c0 | 1 => c1 | _ => c2)
  (fun q hq => by
   match q,hq with
   | 0,_ => exact (blk_cell hg 0).trans rfl
   | 1,_ => exact (blk_cell hg 1).trans rfl
   | 2,_ => exact (blk_cell hg 2).trans rfl)
  (fun q hq => by
   match q,hq with
   | 0,_ => exact h0
   | 1,_ => exact h1
   | 2,_ => exact h2)
  (fun q hq => by
   match q,hq with
   | 0,_ => exact l0
   | 1,_ => exact l1
   | 2,_ => exact l2)
 have e : flatL (fun | 0 => L0 | 1 => L1 | _ => L2) 3 = L0 ++ (L1 ++ L2):=by
  unfold flatL
  simp [List.range,List.range.loop]
 rw [e] at h
 exact h
end Go.Proofs.Ytelglbebffdaaaa.X
namespace Go.Proofs.Ytelglbebffdaaaa.Q
open Go.RowKit Go.Proofs.YtelglbebffdaaaaW.PrintWords Go.Proofs.YtelglbebffdaaaaW.PrintLast Go.Proofs.YtelglbebffdaaaaW.PrintMore Go.Proofs.Ytelglbebffdaaaa.X Go.Proofs.Ytelglbebffdaaaa.Rd
set_option linter.unusedVariables false
set_option linter.unusedSimpArgs false
abbrev NodeI:=S53
def nd (l : List NodeI) (i : Nat) : NodeI:=l.getD i z53
def lab (l : List NodeI) (i : Nat) : Int:=(nd l i).f0
def dep (l : List NodeI) (i : Nat) : Int:=(nd l i).f1
theorem rd_nd (l : List NodeI) (i : Nat) : rd_T53 l (i : Int) = nd l i:=by
  simp [rd_T53,nd]
theorem rd_lab (l : List NodeI) (i : Nat) : (rd_T53 l (i : Int)).f0 = lab l i:=by rw [rd_nd];rfl
theorem rd_dep (l : List NodeI) (i : Nat) : (rd_T53 l (i : Int)).f1 = dep l i:=by rw [rd_nd];rfl
theorem rd_dep0 (l : List NodeI) : (rd_T53 l 0).f1 = dep l 0:=rd_dep l 0
structure Chk (l : List NodeI) (j : Nat) : Prop where
  l0 : 0 ≤ lab l j
  l5 : lab l j ≤ 5
  d0 : 0 ≤ dep l j
  d12 : dep l j ≤ 12
  root : j = 0 → dep l 0 = 0
  pos : 0 < j → 1 ≤ dep l j
  step : 0 < j → dep l j ≤ dep l (j - 1) + 1
structure Tr (l : List NodeI) : Prop where
  len1 : 1 ≤ l.length
  len24 : l.length ≤ 24
  chk : ∀ j,j < l.length → Chk l j
noncomputable def trB (l : List NodeI) : Bool:=@decide (Tr l) (Classical.propDecidable _)
theorem trB_iff (l : List NodeI) : trB l = true ↔ Tr l:=by
  unfold trB;exact @decide_eq_true_iff _ (Classical.propDecidable _)
theorem trB_false (l : List NodeI) (h : ¬ Tr l) : trB l = false:=by
  rw [← Bool.not_eq_true,trB_iff];exact h
theorem trB_true {l : List NodeI} (h : Tr l) : trB l = true:=(trB_iff l).2 h
theorem within_eq (a b c : Int) : impl_within.f a b c = some (decide (b ≤ a ∧ a ≤ c)):=by
  unfold impl_within.f
  by_cases h : b ≤ a <;> simp [h]
theorem l1In_eq (a b c : Int) : spec_l1In.f a b c = some (decide (b ≤ a ∧ a ≤ c)):=by
  unfold spec_l1In.f
  by_cases h : b ≤ a
  · rw [if_pos h];simp [h]
  · rw [if_neg h];simp [h]
theorem implLabelOk_eq (a : Int) : impl_LabelOk.f a = some (decide (0 ≤ a ∧ a ≤ 5)):=by
  unfold impl_LabelOk.f;rw [within_eq];rfl
theorem specLabelOk_eq (a : Int) : spec_LabelOk.f a = some (decide (0 ≤ a ∧ a ≤ 5)):=by
  unfold spec_LabelOk.f;rw [l1In_eq];rfl
theorem implTreeOk_l (l : List NodeI) (h1 : 1 ≤ l.length) (h24 : l.length ≤ 24) (d : Nat) : ∀ i : Nat,i + d = l.length → (∀ j,j < i → Chk l j) → Ev (fun k => impl_TreeOk.l0 k l l l.length i) (trB l):=by
  induction d with
  | zero =>
    intro i hi hc
    rw [trB_true ⟨h1,h24,fun j hj => hc j (by omega)⟩]
    refine Ev.step (f:=fun _ => some true) (fun k => ?_) (Ev.now _)
    simp only [impl_TreeOk.l0]
    rw [if_neg (by omega)]
  | succ d ih =>
    intro i hi hc
    have hlt : i < l.length:=by omega
    have no : ¬ Chk l i → trB l = false:=fun h => trB_false l fun t => h (t.chk i hlt)
    have e : ∀ k,impl_TreeOk.l0 (k + 1) l l l.length i = if (0 ≤ lab l i ∧ lab l i ≤ 5) then (if 0 ≤ dep l i ∧ dep l i ≤ 12 then ((impl_depthOk.f l i).bind fun t => if t = true then impl_TreeOk.l0 k l l l.length ((i + 1 : Nat) : Int) else some false) else some false) else some false:=by
      intro k
      simp only [impl_TreeOk.l0]
      rw [if_pos (by omega),if_pos (by omega),if_pos (by omega),rd_lab,rd_dep,implLabelOk_eq,Option.bind_some,within_eq,wrap_succ hlt (by omega)]
      simp only [ite_dec,Option.bind_some]
    by_cases c1 : 0 ≤ lab l i ∧ lab l i ≤ 5
    · by_cases c2 : 0 ≤ dep l i ∧ dep l i ≤ 12
      · have dk : impl_depthOk.f l i = some (decide ((i = 0 → dep l 0 = 0) ∧ (0 < i → 1 ≤ dep l i ∧ dep l i ≤ dep l (i - 1) + 1))):=by
          unfold impl_depthOk.f
          by_cases c3 : i = 0
          · subst c3
            rw [if_pos (by omega),if_pos (by omega)]
            rw [rd_dep0]
            congr 1
            by_cases c4 : dep l 0 = 0 <;> simp [c4]
          · have hp:=hc (i - 1) (by omega)
            have w1 : wrap64 ((i : Int) - 1) = ((i - 1 : Nat) : Int):=by rw [wrap_id (by omega) (by omega)];omega
            rw [if_neg (by omega),if_pos (by omega),if_pos (by omega),w1,if_pos (by omega),if_pos (by omega),rd_dep,rd_dep,within_eq,Option.bind_some]
            have d12:=hp.d12
            have d0:=hp.d0
            rw [wrap_id (by omega) (by omega)]
            congr 1
            have c5 : 0 < i:=by omega
            simp [c3,c5]
        by_cases c3 : (i = 0 → dep l 0 = 0) ∧ (0 < i → 1 ≤ dep l i ∧ dep l i ≤ dep l (i - 1) + 1)
        · refine Ev.step (f:=fun k => impl_TreeOk.l0 k l l l.length ((i + 1 : Nat) : Int)) (fun k => ?_) (ih (i + 1) (by omega) (fun j hj => ?_))
          · rw [e,if_pos c1,if_pos c2,dk,Option.bind_some,if_pos (decide_eq_true c3)]
          · by_cases ej : j = i
            · subst ej
              exact ⟨c1.1,c1.2,c2.1,c2.2,c3.1,fun h => (c3.2 h).1,fun h => (c3.2 h).2⟩
            · exact hc j (by omega)
        · rw [no fun h => c3 ⟨h.root,fun hp => ⟨h.pos hp,h.step hp⟩⟩]
          refine Ev.step (f:=fun _ => some false) (fun k => ?_) (Ev.now _)
          rw [e,if_pos c1,if_pos c2,dk,Option.bind_some,if_neg (by rw [decide_eq_false c3];simp)]
      · rw [no fun h => c2 ⟨h.d0,h.d12⟩]
        refine Ev.step (f:=fun _ => some false) (fun k => ?_) (Ev.now _)
        rw [e,if_pos c1,if_neg c2]
    · rw [no fun h => c1 ⟨h.l0,h.l5⟩]
      refine Ev.step (f:=fun _ => some false) (fun k => ?_) (Ev.now _)
      rw [e,if_neg c1]
theorem implTreeOk_ev (l : List NodeI) : Ev (fun k => impl_TreeOk.f k l) (trB l):=by
  unfold impl_TreeOk.f
  refine Ev.bindC (within_eq _ _ _) ?_
  by_cases h : (1 : Int) ≤ l.length ∧ (l.length : Int) ≤ 24
  · refine Ev.ifT (by simpa using h) ?_
    exact implTreeOk_l l (by omega) (by omega) l.length 0 (by omega) (fun j hj => absurd hj (Nat.not_lt_zero _))
  · rw [trB_false l fun t => h ⟨by have:=t.len1;omega,by have:=t.len24;omega⟩]
    exact Ev.ifF (by simpa using h) (Ev.now _)
theorem specTreeOk_l (l : List NodeI) (hm : l.length ≤ 9223372036854775807) (d : Nat) : ∀ i : Nat,i + d = l.length → (∀ j,j < i → Chk l j) → Ev (fun k => spec_TreeOk.l0 k l i) (trB l):=by
  induction d with
  | zero =>
    intro i hi hc
    refine Ev.step (f:=fun _ => some (trB l)) (fun k => ?_) (Ev.now _)
    simp only [spec_TreeOk.l0]
    rw [if_neg (by omega),l1In_eq]
    simp only [Option.bind_some]
    congr 1
    by_cases h : (1 : Int) ≤ l.length ∧ (l.length : Int) ≤ 24
    · rw [trB_true ⟨by omega,by omega,fun j hj => hc j (by omega)⟩];simpa using h
    · rw [trB_false l fun t => h ⟨by have:=t.len1;omega,by have:=t.len24;omega⟩];simpa using h
  | succ d ih =>
    intro i hi hc
    have hlt : i < l.length:=by omega
    have no : ¬ Chk l i → trB l = false:=fun h => trB_false l fun t => h (t.chk i hlt)
    have dn : (((dep l i == 0) != ((i : Int) == 0)) = true) ↔ ¬ (dep l i = 0 ↔ i = 0):=by
      rw [bne_iff_ne,ne_eq,Bool.eq_iff_iff,beq_iff_eq,beq_iff_eq,show ((i : Int) = 0 ↔ i = 0) from by omega]
    have e : ∀ k,spec_TreeOk.l0 (k + 1) l i = if (0 ≤ lab l i ∧ lab l i ≤ 5) then (if 0 ≤ dep l i ∧ dep l i ≤ 12 then (if ¬ (dep l i = 0 ↔ i = 0) then some false else if 0 < i ∧ dep l i > dep l (i - 1) + 1 then some false else spec_TreeOk.l0 k l ((i + 1 : Nat) : Int)) else some false) else some false:=by
      intro k
      simp only [spec_TreeOk.l0]
      rw [if_pos (by omega),if_pos (by omega),rd_lab,rd_dep,specLabelOk_eq,Option.bind_some,l1In_eq,wrap_succ hlt (by omega)]
      simp only [ite_dec,Option.bind_some,dn]
      by_cases c4 : 0 < i
      · have hp:=hc (i - 1) (by omega)
        have d12:=hp.d12
        have d0:=hp.d0
        have w1 : wrap64 ((i : Int) - 1) = ((i - 1 : Nat) : Int):=by rw [wrap_id (by omega) (by omega)];omega
        rw [w1,rd_dep,wrap_id (x:=dep l (i - 1) + 1) (by omega) (by omega),if_pos (show (i : Int) > 0 by omega),if_pos (show (0 : Int) ≤ ((i - 1 : Nat) : Int) by omega),if_pos (show ((i - 1 : Nat) : Int) < (l.length : Int) by omega)]
        simp only [c4,true_and]
      · rw [if_neg (show ¬ (i : Int) > 0 by omega)]
        simp only [c4,false_and,if_false]
    by_cases c1 : 0 ≤ lab l i ∧ lab l i ≤ 5
    · by_cases c2 : 0 ≤ dep l i ∧ dep l i ≤ 12
      · by_cases c3 : (dep l i = 0 ↔ i = 0)
        · by_cases c4 : 0 < i ∧ dep l i > dep l (i - 1) + 1
          · rw [no fun h => by have:=h.step c4.1;omega]
            refine Ev.step (f:=fun _ => some false) (fun k => ?_) (Ev.now _)
            rw [e,if_pos c1,if_pos c2,if_neg (fun h => h c3),if_pos c4]
          · refine Ev.step (f:=fun k => spec_TreeOk.l0 k l ((i + 1 : Nat) : Int)) (fun k => ?_) (ih (i + 1) (by omega) (fun j hj => ?_))
            · rw [e,if_pos c1,if_pos c2,if_neg (fun h => h c3),if_neg c4]
            · by_cases ej : j = i
              · subst ej
                refine ⟨c1.1,c1.2,c2.1,c2.2,fun h => ?_,fun h => ?_,fun h => ?_⟩
                · subst h;exact c3.2 rfl
                · have : ¬ dep l j = 0:=fun z => by have:=c3.1 z;omega
                  omega
                · have : ¬ dep l j > dep l (j - 1) + 1:=fun z => c4 ⟨h,z⟩
                  omega
              · exact hc j (by omega)
        · rw [no fun h => c3 ⟨fun z => by
            by_cases q : 0 < i
            · have:=h.pos q;omega
            · omega,fun z => by subst z;exact h.root rfl⟩]
          refine Ev.step (f:=fun _ => some false) (fun k => ?_) (Ev.now _)
          rw [e,if_pos c1,if_pos c2,if_pos c3]
      · rw [no fun h => c2 ⟨h.d0,h.d12⟩]
        refine Ev.step (f:=fun _ => some false) (fun k => ?_) (Ev.now _)
        rw [e,if_pos c1,if_neg c2]
    · rw [no fun h => c1 ⟨h.l0,h.l5⟩]
      refine Ev.step (f:=fun _ => some false) (fun k => ?_) (Ev.now _)
      rw [e,if_neg c1]
theorem specTreeOk_ev (l : List NodeI) (hm : l.length ≤ 9223372036854775807) : Ev (fun k => spec_TreeOk.f k l) (trB l) :=
  Ev.congr (fun _ => rfl) (specTreeOk_l l hm l.length 0 (by omega) (fun j hj => absurd hj (Nat.not_lt_zero _)))
noncomputable def hasB (l : List NodeI) (a : Int) : Bool:=@decide (Tr l ∧ 0 ≤ a ∧ a < l.length) (Classical.propDecidable _)
theorem hasB_iff (l : List NodeI) (a : Int) : hasB l a = true ↔ (Tr l ∧ 0 ≤ a ∧ a < l.length):=by
  unfold hasB;exact @decide_eq_true_iff _ (Classical.propDecidable _)
theorem hasB_false {l : List NodeI} {a : Int} (h : ¬ (Tr l ∧ 0 ≤ a ∧ a < l.length)) : hasB l a = false:=by
  rw [← Bool.not_eq_true,hasB_iff];exact h
theorem specAt_ev (l : List NodeI) (hm : l.length ≤ 9223372036854775807) (a : Int) : Ev (fun k => spec_l3At.f k l a) (hasB l a):=by
  unfold spec_l3At.f
  refine Ev.bind (specTreeOk_ev l hm) ?_
  by_cases h : Tr l
  · refine Ev.ifT (trB_true h) (Ev.constOf ?_)
    have:=h.len1
    have:=h.len24
    rw [wrap_id (by omega) (by omega),l1In_eq,Option.bind_some]
    congr 1
    rw [Bool.eq_iff_iff,decide_eq_true_iff,hasB_iff]
    exact ⟨fun z => ⟨h,by omega,by omega⟩,fun z => by omega⟩
  · refine Ev.ifF (by rw [trB_false l h];simp) ?_
    rw [hasB_false fun z => h z.1]
    exact Ev.now _
def endFrom (l : List NodeI) (d : Int) : Nat → Nat → Nat
  | 0,e => e
  | n + 1,e => if e < l.length ∧ dep l e > d then endFrom l d n (e + 1) else e
def endN (l : List NodeI) (i : Nat) : Nat:=endFrom l (dep l i) l.length (i + 1)
theorem endFrom_spec (l : List NodeI) (d : Int) (n : Nat) : ∀ e,e ≤ l.length → l.length ≤ e + n → e ≤ endFrom l d n e ∧ endFrom l d n e ≤ l.length ∧ (∀ j,e ≤ j → j < endFrom l d n e → dep l j > d) ∧ (endFrom l d n e < l.length → dep l (endFrom l d n e) ≤ d):=by
  induction n with
  | zero => intro e h1 h2;simp only [endFrom];exact ⟨Nat.le_refl _,h1,fun j a b => by omega,fun h => by omega⟩
  | succ n ih =>
    intro e h1 h2
    simp only [endFrom]
    by_cases c : e < l.length ∧ dep l e > d
    · rw [if_pos c]
      obtain ⟨a1,a2,a3,a4⟩:=ih (e + 1) (by omega) (by omega)
      refine ⟨by omega,a2,fun j hj1 hj2 => ?_,a4⟩
      by_cases ej : j = e
      · subst ej;exact c.2
      · exact a3 j (by omega) hj2
    · rw [if_neg c]
      refine ⟨Nat.le_refl _,h1,fun j a b => by omega,fun h => ?_⟩
      have : ¬ dep l e > d:=fun z => c ⟨h,z⟩
      omega
theorem endN_spec (l : List NodeI) {i : Nat} (hi : i < l.length) : i < endN l i ∧ endN l i ≤ l.length ∧ (∀ j,i < j → j < endN l i → dep l j > dep l i) ∧ (endN l i < l.length → dep l (endN l i) ≤ dep l i):=by
  obtain ⟨a1,a2,a3,a4⟩:=endFrom_spec l (dep l i) l.length (i + 1) (by omega) (by omega)
  exact ⟨a1,a2,fun j h1 h2 => a3 j h1 h2,a4⟩
theorem endN_unique (l : List NodeI) {i e : Nat} (hi : i < l.length) (h1 : i < e) (h2 : e ≤ l.length) (h3 : ∀ j,i < j → j < e → dep l j > dep l i) (h4 : e < l.length → dep l e ≤ dep l i) : endN l i = e:=by
  obtain ⟨a1,a2,a3,a4⟩:=endN_spec l hi
  rcases Nat.lt_trichotomy (endN l i) e with h | h | h
  · have:=h3 _ a1 h
    have:=a4 (by omega)
    omega
  · exact h
  · have:=a3 e h1 h
    have:=h4 (by omega)
    omega
theorem implEndOf_l (l : List NodeI) (hm : l.length ≤ 1048576) (i : Nat) (hi : i < l.length) (n : Nat) : ∀ e : Nat,e ≤ l.length → l.length ≤ e + n → Ev (fun k => impl_endOf.l0 k l i e) (endFrom l (dep l i) n e : Nat):=by
  induction n with
  | zero =>
    intro e h1 h2
    refine Ev.step (f:=fun _ => some ((endFrom l (dep l i) 0 e : Nat) : Int)) (fun k => ?_) (Ev.now _)
    simp only [impl_endOf.l0,endFrom]
    rw [if_neg (by omega)]
  | succ n ih =>
    intro e h1 h2
    simp only [endFrom]
    by_cases c : e < l.length ∧ dep l e > dep l i
    · rw [if_pos c]
      refine Ev.step (f:=fun k => impl_endOf.l0 k l i ((e + 1 : Nat) : Int)) (fun k => ?_) (ih (e + 1) (by omega) (by omega))
      simp only [impl_endOf.l0]
      rw [if_pos (by omega),if_pos (by omega),if_pos (by omega),if_pos (by omega),rd_dep,rd_dep,if_pos c.2,wrap_succ c.1 (by omega)]
    · rw [if_neg c]
      refine Ev.step (f:=fun _ => some (e : Int)) (fun k => ?_) (Ev.now _)
      simp only [impl_endOf.l0]
      by_cases c1 : e < l.length
      · have c2 : ¬ dep l e > dep l i:=fun z => c ⟨c1,z⟩
        rw [if_pos (by omega),if_pos (by omega),if_pos (by omega),if_pos (by omega),rd_dep,rd_dep,if_neg c2]
      · rw [if_neg (by omega)]
theorem implEndOf_ev (l : List NodeI) (hm : l.length ≤ 1048576) (i : Nat) (hi : i < l.length) : Ev (fun k => impl_endOf.f k l i) (endN l i : Nat):=by
  unfold impl_endOf.f
  rw [wrap_succ hi (by omega)]
  exact implEndOf_l l hm i hi l.length (i + 1) (by omega) (by omega)
theorem specEndOf_same (l : List NodeI) (a : Int) (k : Nat) : ∀ e : Int,spec_EndOf.l0 k l a e = impl_endOf.l0 k l a e:=by
  induction k with
  | zero => intro e;simp only [spec_EndOf.l0,impl_endOf.l0]
  | succ k ih => intro e;simp only [spec_EndOf.l0,impl_endOf.l0,ih]
theorem specEndOf_ev (l : List NodeI) (t : Tr l) (i : Nat) (hi : i < l.length) : Ev (fun k => spec_EndOf.f k l i) (endN l i : Nat):=by
  have:=t.len24
  unfold spec_EndOf.f
  refine Ev.bind (specAt_ev l (by omega) i) (Ev.ifT ((hasB_iff _ _).2 ⟨t,by omega,by omega⟩) ?_)
  simp only [specEndOf_same]
  exact implEndOf_ev l (by omega) i hi
end Go.Proofs.Ytelglbebffdaaaa.Q
namespace Go.Proofs.Ytelglbebffdaaaa.Q
open Go.RowKit Go.Proofs.YtelglbebffdaaaaW.PrintWords Go.Proofs.YtelglbebffdaaaaW.PrintLast Go.Proofs.YtelglbebffdaaaaW.PrintMore Go.Proofs.Ytelglbebffdaaaa.X Go.Proofs.Ytelglbebffdaaaa.Rd
set_option linter.unusedVariables false
set_option linter.unusedSimpArgs false
def kidsFrom (l : List NodeI) (i : Nat) : Nat → Nat → List Int
  | 0,_ => []
  | n + 1,k => if k < endN l i then (if dep l k = dep l i + 1 then (k : Int) :: kidsFrom l i n (k + 1) else kidsFrom l i n (k + 1)) else []
noncomputable def kidsOf (l : List NodeI) (a : Int) : List Int:=if hasB l a = true then kidsFrom l a.toNat l.length (a.toNat + 1) else []
theorem kidsFrom_len (l : List NodeI) (i : Nat) (n : Nat) : ∀ k,(kidsFrom l i n k).length ≤ n:=by
  induction n with
  | zero => intro k;simp [kidsFrom]
  | succ n ih =>
    intro k
    simp only [kidsFrom]
    have:=ih (k + 1)
    split
    · split
      · simp only [List.length_cons];omega
      · omega
    · simp
theorem kidsFrom_mem (l : List NodeI) (i : Nat) (n : Nat) : ∀ k,endN l i ≤ k + n → ∀ x : Int,x ∈ kidsFrom l i n k ↔ ∃ j : Nat,x = j ∧ k ≤ j ∧ j < endN l i ∧ dep l j = dep l i + 1:=by
  induction n with
  | zero => intro k hk x;simp only [kidsFrom,List.not_mem_nil,false_iff];rintro ⟨j,_,h1,h2,_⟩;omega
  | succ n ih =>
    intro k hk x
    simp only [kidsFrom]
    have h:=ih (k + 1) (by omega) x
    by_cases c : k < endN l i
    · rw [if_pos c]
      by_cases c2 : dep l k = dep l i + 1
      · rw [if_pos c2,List.mem_cons,h]
        constructor
        · rintro (e | ⟨j,e,h1,h2,h3⟩)
          · exact ⟨k,e,Nat.le_refl _,c,c2⟩
          · exact ⟨j,e,by omega,h2,h3⟩
        · rintro ⟨j,e,h1,h2,h3⟩
          by_cases q : j = k
          · subst q;exact .inl e
          · exact .inr ⟨j,e,by omega,h2,h3⟩
      · rw [if_neg c2,h]
        constructor
        · rintro ⟨j,e,h1,h2,h3⟩
          exact ⟨j,e,by omega,h2,h3⟩
        · rintro ⟨j,e,h1,h2,h3⟩
          by_cases q : j = k
          · subst q;exact absurd h3 c2
          · exact ⟨j,e,by omega,h2,h3⟩
    · rw [if_neg c]
      simp only [List.not_mem_nil,false_iff]
      rintro ⟨j,_,h1,h2,_⟩;omega
theorem wrapN {a : Nat} (h : a ≤ 1048576) : wrap64 ((a : Int) + 1) = ((a + 1 : Nat) : Int):=by rw [wrap_id (by omega) (by omega)];omega
theorem kidsOf_none {l : List NodeI} {a : Int} (h : ¬ (Tr l ∧ 0 ≤ a ∧ a < l.length)) : kidsOf l a = []:=by
  unfold kidsOf
  rw [if_neg (by rw [hasB_false h];simp)]
theorem kidsOf_mem {l : List NodeI} (t : Tr l) {i : Nat} (hi : i < l.length) (x : Int) : x ∈ kidsOf l i ↔ ∃ j : Nat,x = j ∧ i < j ∧ j < endN l i ∧ dep l j = dep l i + 1:=by
  have hb : hasB l i = true:=(hasB_iff _ _).2 ⟨t,by omega,by omega⟩
  have hs:=endN_spec l hi
  unfold kidsOf
  rw [if_pos hb,Int.toNat_natCast,kidsFrom_mem l i l.length (i + 1) (by omega)]
  exact Iff.rfl
theorem kidsOf_len (l : List NodeI) (a : Int) : (kidsOf l a).length ≤ 24:=by
  by_cases h : Tr l ∧ 0 ≤ a ∧ a < l.length
  · unfold kidsOf
    rw [if_pos ((hasB_iff _ _).2 h)]
    have:=kidsFrom_len l a.toNat l.length (a.toNat + 1)
    have:=h.1.len24
    omega
  · rw [kidsOf_none h];simp
end Go.Proofs.Ytelglbebffdaaaa.Q
namespace Go.Proofs.Ytelglbebffdaaaa.Q
open Go.RowKit Go.Proofs.YtelglbebffdaaaaW.PrintWords Go.Proofs.YtelglbebffdaaaaW.PrintLast Go.Proofs.YtelglbebffdaaaaW.PrintMore Go.Proofs.Ytelglbebffdaaaa.X Go.Proofs.Ytelglbebffdaaaa.Rd
set_option linter.unusedVariables false
set_option linter.unusedSimpArgs false
theorem dep_nonneg {l : List NodeI} (t : Tr l) {j : Nat} (hj : j < l.length) : 0 ≤ dep l j:=(t.chk j hj).d0
theorem dep_slope {l : List NodeI} (t : Tr l) (x : Nat) (d : Nat) : x + d < l.length → dep l (x + d) ≤ dep l x + d:=by
  induction d with
  | zero => intro _;simp
  | succ d ih =>
    intro h
    have h1:=ih (by omega)
    have h2:=(t.chk (x + (d + 1)) h).step (by omega)
    rw [show x + (d + 1) - 1 = x + d by omega] at h2
    omega
theorem dep_slope' {l : List NodeI} (t : Tr l) {x y : Nat} (hxy : x ≤ y) (hy : y < l.length) : dep l y ≤ dep l x + ((y : Int) - x):=by
  have:=dep_slope t x (y - x) (by omega)
  rw [show x + (y - x) = y by omega] at this
  omega
theorem dep_le {l : List NodeI} (t : Tr l) {j : Nat} (hj : j < l.length) : dep l j ≤ j:=by
  have h:=dep_slope' t (Nat.zero_le j) hj
  have r:=(t.chk 0 (by omega)).root rfl
  omega
theorem end_nest {l : List NodeI} {i j : Nat} (hi : i < l.length) (h1 : i < j) (h2 : j < endN l i) : endN l j ≤ endN l i:=by
  obtain ⟨a1,a2,a3,a4⟩:=endN_spec l hi
  obtain ⟨b1,b2,b3,b4⟩:=endN_spec l (i:=j) (by omega)
  rcases Nat.lt_or_ge (endN l i) (endN l j) with h | h
  · have c1:=b3 (endN l i) (by omega) h
    have c2:=a4 (by omega)
    have c3:=a3 j h1 h2
    omega
  · exact h
def rk (l : List NodeI) (j : Nat) : Nat:=endN l j - 1 - (dep l j).toNat
theorem rk_eq {l : List NodeI} (t : Tr l) {j : Nat} (hj : j < l.length) : (rk l j : Int) + dep l j + 1 = endN l j:=by
  have h1:=dep_nonneg t hj
  have h2:=dep_le t hj
  have h3:=(endN_spec l hj).1
  unfold rk
  omega
theorem rk_lt {l : List NodeI} (t : Tr l) {j : Nat} (hj : j < l.length) : rk l j < l.length:=by
  have h1:=rk_eq t hj
  have h2:=dep_nonneg t hj
  have h3:=(endN_spec l hj).2.1
  omega
theorem rk_under {l : List NodeI} (t : Tr l) {i j : Nat} (hi : i < l.length) (h1 : i < j) (h2 : j < endN l i) : rk l j < rk l i:=by
  have a:=endN_spec l hi
  have hj : j < l.length:=by omega
  have h3:=rk_eq t hi
  have h4:=rk_eq t hj
  have h5:=end_nest hi h1 h2
  have h6:=a.2.2.1 j h1 h2
  omega
theorem rk_ahead {l : List NodeI} (t : Tr l) {i j : Nat} (hj : j < l.length) (hi : i < l.length) (h2 : endN l i ≤ j) : rk l i < rk l j:=by
  have a:=endN_spec l hi
  have b:=endN_spec l hj
  have h3:=rk_eq t hi
  have h4:=rk_eq t hj
  have h5:=a.2.2.2 (by omega)
  have h6:=dep_slope' t h2 hj
  omega
theorem rk_inj {l : List NodeI} (t : Tr l) {i j : Nat} (hi : i < l.length) (hj : j < l.length) (h : rk l i = rk l j) : i = j:=by
  rcases Nat.lt_trichotomy i j with c | c | c
  · rcases Nat.lt_or_ge j (endN l i) with d | d
    · have:=rk_under t hi c d;omega
    · have:=rk_ahead t hj hi d;omega
  · exact c
  · rcases Nat.lt_or_ge i (endN l j) with d | d
    · have:=rk_under t hj c d;omega
    · have:=rk_ahead t hi hj d;omega
theorem kidsFrom_filter (l : List NodeI) (i : Nat) (n : Nat) : ∀ k,endN l i ≤ k + n → kidsFrom l i n k = ((List.range' k (endN l i - k)).filter fun j => decide (dep l j = dep l i + 1)).map (fun j : Nat => (j : Int)):=by
  induction n with
  | zero => intro k hk;rw [show endN l i - k = 0 by omega];rfl
  | succ n ih =>
    intro k hk
    simp only [kidsFrom]
    by_cases c : k < endN l i
    · rw [if_pos c,show endN l i - k = (endN l i - (k + 1)) + 1 by omega,List.range'_succ]
      by_cases c2 : dep l k = dep l i + 1
      · rw [if_pos c2,List.filter_cons_of_pos (by simpa using c2),List.map_cons,ih (k + 1) (by omega)]
      · rw [if_neg c2,List.filter_cons_of_neg (by simpa using c2),ih (k + 1) (by omega)]
    · rw [if_neg c,show endN l i - k = 0 by omega];rfl
def kidsL (l : List NodeI) (i k : Nat) : List Int:=((List.range' k (endN l i - k)).filter fun j => decide (dep l j = dep l i + 1)).map (fun j : Nat => (j : Int))
theorem kidsOf_eq {l : List NodeI} (t : Tr l) {i : Nat} (hi : i < l.length) : kidsOf l i = kidsL l i (i + 1):=by
  have hb : hasB l i = true:=(hasB_iff _ _).2 ⟨t,by omega,by omega⟩
  have hs:=endN_spec l hi
  unfold kidsOf
  rw [if_pos hb,Int.toNat_natCast,kidsFrom_filter l i l.length (i + 1) (by omega)]
  rfl
theorem kidsL_end (l : List NodeI) (i k : Nat) (h : endN l i ≤ k) : kidsL l i k = []:=by
  unfold kidsL
  rw [show endN l i - k = 0 by omega];rfl
theorem kidsL_next {l : List NodeI} {i k : Nat} (hi : i < l.length) (h1 : i < k) (h2 : k < endN l i) (h3 : dep l k = dep l i + 1) : kidsL l i k = (k : Int) :: kidsL l i (endN l k):=by
  have a:=endN_spec l hi
  have b:=endN_spec l (i:=k) (by omega)
  have c:=end_nest hi h1 h2
  unfold kidsL
  rw [show endN l i - k = 1 + ((endN l k - (k + 1)) + (endN l i - endN l k)) by omega,List.range'_append_1.symm,List.range'_append_1.symm,List.filter_append,List.filter_append,List.map_append,List.map_append]
  have e1 : (List.range' k 1).filter (fun j => decide (dep l j = dep l i + 1)) = [k]:=by
    simp [List.range',h3]
  have e2 : (List.range' (k + 1) (endN l k - (k + 1))).filter (fun j => decide (dep l j = dep l i + 1)) = []:=by
    rw [List.filter_eq_nil_iff]
    intro x hx
    rw [List.mem_range'_1] at hx
    have:=b.2.2.1 x (by omega) (by omega)
    simp only [decide_eq_true_eq]
    omega
  rw [e1,e2,show k + 1 + (endN l k - (k + 1)) = endN l k by omega]
  rfl
theorem kid_next {l : List NodeI} {i k : Nat} (hi : i < l.length) (h1 : i < k) (h2 : k < endN l i) (h3 : dep l k = dep l i + 1) : endN l k = endN l i ∨ endN l k < endN l i ∧ dep l (endN l k) = dep l i + 1:=by
  have a:=endN_spec l hi
  have b:=endN_spec l (i:=k) (by omega)
  have c:=end_nest hi h1 h2
  by_cases e : endN l k = endN l i
  · exact .inl e
  · have h4:=b.2.2.2 (by omega)
    have h5:=a.2.2.1 (endN l k) (by omega) (by omega)
    exact .inr ⟨by omega,by omega⟩
theorem kid_first {l : List NodeI} (t : Tr l) {i : Nat} (hi : i < l.length) : i + 1 = endN l i ∨ i + 1 < endN l i ∧ dep l (i + 1) = dep l i + 1:=by
  have a:=endN_spec l hi
  by_cases e : i + 1 = endN l i
  · exact .inl e
  · have h4:=a.2.2.1 (i + 1) (by omega) (by omega)
    have h5:=(t.chk (i + 1) (by omega)).step (by omega)
    rw [Nat.add_sub_cancel] at h5
    exact .inr ⟨by omega,by omega⟩
def postN (l : List NodeI) : Nat → Nat → List Int
  | 0,i => [(i : Int)]
  | f + 1,i => (kidsL l i (i + 1)).flatMap (fun x => postN l f x.toNat) ++ [(i : Int)]
def IsP (l : List NodeI) (P : List Int) (lo hi : Nat) (a : Int) : Prop:=P.length = hi - lo ∧ ∀ r,r < P.length → ∃ j : Nat,lo ≤ j ∧ j < hi ∧ P[r]? = some (j : Int) ∧ (rk l j : Int) = a + r
theorem IsP.append {l : List NodeI} {P Q : List Int} {lo mid hi : Nat} {a b : Int} (h : IsP l P lo mid a) (k : IsP l Q mid hi b) (h1 : lo ≤ mid) (h2 : mid ≤ hi) (hb : b = a + ((mid : Int) - lo)) : IsP l (P ++ Q) lo hi a:=by
  obtain ⟨p1,p2⟩:=h
  obtain ⟨q1,q2⟩:=k
  refine ⟨by rw [List.length_append];omega,fun r hr => ?_⟩
  rw [List.length_append] at hr
  by_cases c : r < P.length
  · obtain ⟨j,j1,j2,j3,j4⟩:=p2 r c
    exact ⟨j,j1,by omega,by rw [List.getElem?_append_left c];exact j3,j4⟩
  · obtain ⟨j,j1,j2,j3,j4⟩:=q2 (r - P.length) (by omega)
    exact ⟨j,by omega,j2,by rw [List.getElem?_append_right (by omega)];exact j3,by omega⟩
theorem IsP.none (l : List NodeI) (k : Nat) (a : Int) : IsP l [] k k a:=⟨by simp,fun r h => absurd h (by simp)⟩
theorem postN_isP {l : List NodeI} (t : Tr l) (f : Nat) : ∀ i,i < l.length → endN l i - i ≤ f + 1 → IsP l (postN l f i) i (endN l i) ((i : Int) - dep l i):=by
  induction f with
  | zero =>
    intro i hi hf
    have a:=endN_spec l hi
    have e:=rk_eq t hi
    refine ⟨by simp only [postN,List.length_singleton];omega,fun r hr => ?_⟩
    simp only [postN,List.length_singleton] at hr
    obtain rfl : r = 0:=by omega
    exact ⟨i,Nat.le_refl _,a.1,rfl,by omega⟩
  | succ f ih =>
    intro i hi hf
    have a:=endN_spec l hi
    have e:=rk_eq t hi
    have kids : ∀ d k,endN l i - k ≤ d → i < k → k ≤ endN l i → (k = endN l i ∨ k < endN l i ∧ dep l k = dep l i + 1) → IsP l ((kidsL l i k).flatMap fun x => postN l f x.toNat) k (endN l i) ((k : Int) - (dep l i + 1)):=by
      intro d
      induction d with
      | zero =>
        intro k h1 h2 h3 h4
        obtain rfl : k = endN l i:=by omega
        rw [kidsL_end l i _ (Nat.le_refl _)]
        exact IsP.none l _ _
      | succ d ihd =>
        intro k h1 h2 h3 h4
        by_cases c : k = endN l i
        · subst c
          rw [kidsL_end l i _ (Nat.le_refl _)]
          exact IsP.none l _ _
        · have h5 : dep l k = dep l i + 1:=by omega
          have b:=endN_spec l (i:=k) (by omega)
          have n1:=end_nest hi h2 (by omega)
          have n2:=kid_next hi h2 (by omega) h5
          rw [kidsL_next hi h2 (by omega) h5,List.flatMap_cons,Int.toNat_natCast]
          have q1:=ih k (by omega) (by omega)
          have q2:=ihd (endN l k) (by omega) (by omega) (by omega) n2
          rw [show (k : Int) - (dep l i + 1) = (k : Int) - dep l k by omega]
          exact q1.append q2 (by omega) (by omega) (by omega)
    have q:=kids _ (i + 1) (Nat.le_refl _) (by omega) (by omega) (kid_first t hi)
    simp only [postN]
    obtain ⟨q1,q2⟩:=q
    refine ⟨by rw [List.length_append,List.length_singleton];omega,fun r hr => ?_⟩
    rw [List.length_append,List.length_singleton] at hr
    by_cases c : r < ((kidsL l i (i + 1)).flatMap fun x => postN l f x.toNat).length
    · obtain ⟨j,j1,j2,j3,j4⟩:=q2 r c
      exact ⟨j,by omega,j2,by rw [List.getElem?_append_left c];exact j3,by omega⟩
    · refine ⟨i,Nat.le_refl _,a.1,?_,by omega⟩
      rw [List.getElem?_append_right (by omega),show r - ((kidsL l i (i + 1)).flatMap fun x => postN l f x.toNat).length = 0 by omega]
      rfl
theorem end_root {l : List NodeI} (t : Tr l) : endN l 0 = l.length:=by
  have h1:=t.len1
  have r:=(t.chk 0 (by omega)).root rfl
  refine endN_unique l (by omega) (by omega) (Nat.le_refl _) (fun j h2 h3 => ?_) (fun h => absurd h (Nat.lt_irrefl _))
  have:=(t.chk j h3).pos h2
  omega
def pst (l : List NodeI) : List Int:=postN l 24 0
theorem pst_isP {l : List NodeI} (t : Tr l) : IsP l (pst l) 0 l.length 0:=by
  have h1:=t.len1
  have h2:=t.len24
  have e:=end_root t
  have r:=(t.chk 0 (by omega)).root rfl
  have h:=postN_isP t 24 0 (by omega) (by omega)
  rw [e,r] at h
  exact h
theorem pst_len {l : List NodeI} (t : Tr l) : (pst l).length = l.length:=by
  have:=(pst_isP t).1
  omega
theorem pst_at {l : List NodeI} (t : Tr l) {r : Nat} (hr : r < l.length) : ∃ j : Nat,j < l.length ∧ (pst l)[r]? = some (j : Int) ∧ rk l j = r:=by
  obtain ⟨j,_,h2,h3,h4⟩:=(pst_isP t).2 r (by rw [pst_len t];exact hr)
  exact ⟨j,h2,h3,by omega⟩
end Go.Proofs.Ytelglbebffdaaaa.Q
namespace Go.Proofs.Ytelglbebffdaaaa.Q
open Go.RowKit Go.Proofs.YtelglbebffdaaaaW.PrintWords Go.Proofs.YtelglbebffdaaaaW.PrintLast Go.Proofs.YtelglbebffdaaaaW.PrintMore Go.Proofs.Ytelglbebffdaaaa.X Go.Proofs.Ytelglbebffdaaaa.Rd Go.Proofs.Ytelglbebffdaaaa
set_option linter.unusedVariables false
set_option linter.unusedSimpArgs false
def nodeN (l : List NodeI) (r : Nat) : Nat:=((pst l).getD r 0).toNat
theorem nodeN_spec {l : List NodeI} (t : Tr l) {r : Nat} (hr : r < l.length) : nodeN l r < l.length ∧ rk l (nodeN l r) = r ∧ (pst l)[r]? = some (nodeN l r : Int):=by
  obtain ⟨j,h1,h2,h3⟩:=pst_at t hr
  have e : nodeN l r = j:=by simp [nodeN,List.getD_eq_getElem?_getD,h2]
  rw [e];exact ⟨h1,h3,h2⟩
theorem nodeN_lt {l : List NodeI} (t : Tr l) {r : Nat} (hr : r < l.length) : nodeN l r < l.length:=(nodeN_spec t hr).1
theorem rk_nodeN {l : List NodeI} (t : Tr l) {r : Nat} (hr : r < l.length) : rk l (nodeN l r) = r:=(nodeN_spec t hr).2.1
theorem nodeN_rk {l : List NodeI} (t : Tr l) {j : Nat} (hj : j < l.length) : nodeN l (rk l j) = j :=
  rk_inj t (nodeN_lt t (rk_lt t hj)) hj (rk_nodeN t (rk_lt t hj))
theorem pst_eq_map {l : List NodeI} (t : Tr l) : pst l = (List.range l.length).map fun r => (nodeN l r : Int):=by
  apply List.ext_getElem?
  intro r
  by_cases hr : r < l.length
  · rw [(nodeN_spec t hr).2.2,List.getElem?_map,List.getElem?_range hr];rfl
  · rw [List.getElem?_eq_none (by rw [pst_len t];omega),List.getElem?_eq_none (by simp;omega)]
def lfN (l : List NodeI) (r : Nat) : Nat:=nodeN l r - (dep l (nodeN l r)).toNat
theorem lfN_eq {l : List NodeI} (t : Tr l) {r : Nat} (hr : r < l.length) : (lfN l r : Int) = nodeN l r - dep l (nodeN l r):=by
  have h1:=dep_nonneg t (nodeN_lt t hr)
  have h2:=dep_le t (nodeN_lt t hr)
  unfold lfN;omega
theorem lfN_le {l : List NodeI} (t : Tr l) {r : Nat} (hr : r < l.length) : lfN l r ≤ r:=by
  have h1:=lfN_eq t hr
  have h2:=rk_eq t (nodeN_lt t hr)
  have h3:=(endN_spec l (nodeN_lt t hr)).1
  rw [rk_nodeN t hr] at h2
  omega
theorem under_rk {l : List NodeI} (t : Tr l) {i j : Nat} (hi : i < l.length) (hj : j < l.length) : (lfN l (rk l i) ≤ rk l j ∧ rk l j ≤ rk l i) ↔ i ≤ j ∧ j < endN l i:=by
  have e:=lfN_eq t (rk_lt t hi)
  rw [nodeN_rk t hi] at e
  have ri:=rk_eq t hi
  have rj:=rk_eq t hj
  have ei:=endN_spec l hi
  have ej:=endN_spec l hj
  constructor
  · rintro ⟨h1,h2⟩
    by_cases c1 : endN l i ≤ j
    · have:=rk_ahead t hj hi c1;omega
    · refine ⟨?_,by omega⟩
      rcases Nat.lt_or_ge j i with c | c
      · exfalso
        by_cases c2 : i < endN l j
        · have:=rk_under t hj c c2;omega
        · have d1:=ej.2.2.2 (by omega)
          have d2:=dep_slope' t (x:=endN l j) (y:=i) (by omega) hi
          omega
      · exact c
  · rintro ⟨h1,h2⟩
    by_cases c : i = j
    · subst c
      have:=ei.1
      omega
    · have d1:=rk_under t hi (by omega) h2
      have d2:=dep_slope' t (x:=i) (y:=j) h1 hj
      have d3:=ej.1
      omega
theorem lfN_lam {l : List NodeI} (t : Tr l) : Ted.Lam (lfN l) l.length:=by
  intro p x hp h1 h2
  have hx : x < l.length:=by omega
  have a:=nodeN_lt t hp
  have b:=nodeN_lt t hx
  have u:=(under_rk t a b).1 (by rw [rk_nodeN t hp,rk_nodeN t hx];exact ⟨h1,h2⟩)
  have e1:=lfN_eq t hp
  have e2:=lfN_eq t hx
  have s:=dep_slope' t u.1 b
  omega
def msOf (a b : List NodeI) (d i r : List Int) : Ted.Ms where
  la:=lfN a
  lb:=lfN b
  del x:=d.getD (lab a (nodeN a x)).toNat 0
  ins y:=i.getD (lab b (nodeN b y)).toNat 0
  rel x y:=r.getD (6 * (lab a (nodeN a x)).toNat + (lab b (nodeN b y)).toNat) 0
end Go.Proofs.Ytelglbebffdaaaa.Q
namespace Go.Proofs.Ytelglbebffdaaaa.Q
open Go.RowKit Go.Proofs.YtelglbebffdaaaaW.PrintWords Go.Proofs.YtelglbebffdaaaaW.PrintLast Go.Proofs.YtelglbebffdaaaaW.PrintMore Go.Proofs.Ytelglbebffdaaaa.X Go.Proofs.Ytelglbebffdaaaa.Rd
set_option linter.unusedVariables false
set_option linter.unusedSimpArgs false
def inRow (l : List Int) (n : Int) : Bool:=decide ((l.length : Int) = n) && !(l.any (outP 1000))
theorem inRow_iff {l : List Int} {n : Int} : inRow l n = true ↔ (l.length : Int) = n ∧ ∀ x ∈ l,0 ≤ x ∧ x ≤ 1000:=by
  unfold inRow
  rw [Bool.and_eq_true,decide_eq_true_eq,Bool.not_eq_true',List.any_eq_false]
  refine and_congr_right fun _ => forall_congr' fun x => forall_congr' fun _ => ?_
  unfold outP
  simp
def diagFrom (r : List Int) : Nat → Nat → Bool
  | 0,_ => true
  | d + 1,a => if r.getD (7 * a) 0 = 0 then diagFrom r d (a + 1) else false
def costB (d i r : List Int) : Bool:=inRow d 6 && inRow i 6 && inRow r 36 && diagFrom r 6 0
structure Co (d i r : List Int) : Prop where
  dl : d.length = 6
  il : i.length = 6
  rl : r.length = 36
  dp : ∀ x ∈ d,0 ≤ x ∧ x ≤ 1000
  ip : ∀ x ∈ i,0 ≤ x ∧ x ≤ 1000
  rp : ∀ x ∈ r,0 ≤ x ∧ x ≤ 1000
  diag : ∀ a : Nat,a < 6 → r.getD (7 * a) 0 = 0
theorem diagFrom_iff (r : List Int) (d : Nat) : ∀ a,diagFrom r d a = true ↔ ∀ b,a ≤ b → b < a + d → r.getD (7 * b) 0 = 0:=by
  induction d with
  | zero => intro a;simp only [diagFrom,true_iff];intro b h1 h2;omega
  | succ d ih =>
    intro a
    simp only [diagFrom]
    by_cases c : r.getD (7 * a) 0 = 0
    · rw [if_pos c,ih (a + 1)]
      constructor
      · intro h b h1 h2
        by_cases e : b = a
        · subst e;exact c
        · exact h b (by omega) (by omega)
      · intro h b h1 h2
        exact h b (by omega) (by omega)
    · rw [if_neg c]
      simp only [Bool.false_eq_true,false_iff]
      intro h
      exact c (h a (Nat.le_refl _) (by omega))
theorem costB_iff {d i r : List Int} : costB d i r = true ↔ Co d i r:=by
  unfold costB
  rw [Bool.and_eq_true,Bool.and_eq_true,Bool.and_eq_true,inRow_iff,inRow_iff,inRow_iff,diagFrom_iff]
  constructor
  · rintro ⟨⟨⟨⟨h1,h2⟩,h3,h4⟩,h5,h6⟩,h7⟩
    exact ⟨by omega,by omega,by omega,h2,h4,h6,fun a ha => h7 a (Nat.zero_le _) (by omega)⟩
  · intro h
    exact ⟨⟨⟨⟨by rw [h.dl];rfl,h.dp⟩,by rw [h.il];rfl,h.ip⟩,by rw [h.rl];rfl,h.rp⟩,fun b _ hb => h.diag b (by omega)⟩
theorem price_at {l : List Int} (h : ∀ x ∈ l,0 ≤ x ∧ x ≤ 1000) (j : Nat) : 0 ≤ l.getD j 0 ∧ l.getD j 0 ≤ 1000:=by
  rw [List.getD_eq_getElem?_getD]
  by_cases c : j < l.length
  · rw [List.getElem?_eq_getElem c]
    exact h _ (List.getElem_mem c)
  · rw [List.getElem?_eq_none (by omega)]
    simp
theorem specRow_l (l : List Int) (hl : l.length ≤ 9223372036854775807) (n : Int) (d : Nat) : ∀ j : Nat,j + d = l.length → Ev (fun k => spec_l7In.l0 k l n j) (decide ((l.length : Int) = n) && !((l.drop j).any (outP 1000))):=by
  induction d with
  | zero =>
    intro j hj
    refine Ev.step (fun _ => rfl) ?_
    simp only [spec_l7In.l0]
    rw [List.drop_of_length_le (by omega),List.any_nil,Bool.not_false,Bool.and_true]
    refine Ev.ifF (by omega) ?_
    rw [show (decide ((l.length : Int) = n)) = ((l.length : Int) == n) from by rw [Bool.eq_iff_iff,decide_eq_true_eq,beq_iff_eq]]
    exact Ev.now _
  | succ d ih =>
    intro j hj
    have hlt : j < l.length:=by omega
    refine Ev.step (fun _ => rfl) ?_
    simp only [spec_l7In.l0,rd,getD_nat l j _ hlt]
    rw [List.drop_eq_getElem_cons hlt,List.any_cons,wrap_succ hlt hl]
    have e : spec_l1In.f l[j] 0 1000 = some (!outP 1000 l[j]):=by
      unfold spec_l1In.f outP
      by_cases h : 0 ≤ l[j]
      · rw [if_pos h];simp [h]
      · rw [if_neg h];simp [h]
    refine Ev.ifT (by omega) (Ev.ifT (by omega) (Ev.bindC e ?_))
    cases outP 1000 l[j]
    · rw [Bool.false_or]
      exact Ev.ifT rfl (ih (j + 1) (by omega))
    · rw [Bool.true_or,Bool.not_true,Bool.and_false]
      exact Ev.ifF (by simp) (Ev.now _)
theorem specRow_ev (l : List Int) (hl : l.length ≤ 9223372036854775807) (n : Int) : Ev (fun k => spec_l7In.f k l n) (inRow l n) :=
  specRow_l l hl n l.length 0 (by omega)
theorem implRow_eq (l : List Int) (n : Int) : impl_pricesOk.f l n = some (inRow l n):=rfl
theorem specDiag_l (d i r : List Int) (hr : r.length = 36) (e : Nat) : ∀ a : Nat,a + e = 6 → Ev (fun k => spec_CostOk.l0 k a d i r) (diagFrom r e a):=by
  induction e with
  | zero =>
    intro a ha
    refine Ev.step (fun _ => rfl) ?_
    simp only [spec_CostOk.l0,diagFrom]
    exact Ev.ifF (by omega) (Ev.now _)
  | succ e ih =>
    intro a ha
    refine Ev.step (fun _ => rfl) ?_
    have w1 : wrap64 (wrap64 ((a : Int) * 6) + a) = ((7 * a : Nat) : Int):=by rw [wrap_id (x:=(a : Int) * 6) (by omega) (by omega),wrap_id (by omega) (by omega)];omega
    simp only [spec_CostOk.l0,diagFrom,w1,rd,Int.toNat_natCast]
    refine Ev.ifT (by omega) (Ev.ifT (by omega) (Ev.ifT (by omega) ?_))
    rw [wrap_succ (show a < 6 by omega) (by omega)]
    by_cases c : r.getD (7 * a) 0 = 0
    · rw [if_pos c];exact Ev.ifT c (ih (a + 1) (by omega))
    · rw [if_neg c];exact Ev.ifF c (Ev.now _)
theorem implDiag_l (d i r : List Int) (hr : r.length = 36) (e : Nat) : ∀ a : Nat,a + e = 6 → Ev (fun k => impl_CostOk.l0 k a d i r) (diagFrom r e a):=by
  induction e with
  | zero =>
    intro a ha
    refine Ev.step (fun _ => rfl) ?_
    simp only [impl_CostOk.l0,diagFrom]
    exact Ev.ifF (by omega) (Ev.now _)
  | succ e ih =>
    intro a ha
    refine Ev.step (fun _ => rfl) ?_
    have w1 : wrap64 (wrap64 ((a : Int) * 6) + a) = ((7 * a : Nat) : Int):=by rw [wrap_id (x:=(a : Int) * 6) (by omega) (by omega),wrap_id (by omega) (by omega)];omega
    simp only [impl_CostOk.l0,diagFrom,w1,rd,Int.toNat_natCast]
    refine Ev.ifT (by omega) (Ev.ifT (by omega) (Ev.ifT (by omega) ?_))
    rw [wrap_succ (show a < 6 by omega) (by omega)]
    by_cases c : r.getD (7 * a) 0 = 0
    · rw [if_pos c];exact Ev.ifT c (ih (a + 1) (by omega))
    · rw [if_neg c];exact Ev.ifF c (Ev.now _)
theorem implCostOk_ev (d i r : List Int) : Ev (fun k => impl_CostOk.f k d i r) (costB d i r):=by
  unfold impl_CostOk.f costB
  refine Ev.bindC (implRow_eq d 6) ?_
  cases h1 : inRow d 6 with
  | false =>
    refine Ev.ifF (by simp) (Ev.step (fun _ => rfl) ?_)
    simp only [impl_CostOk.j0]
    exact Ev.ifT trivial (Ev.now _)
  | true =>
    refine Ev.ifT rfl (Ev.bindC (implRow_eq i 6) ?_)
    cases h2 : inRow i 6 with
    | false =>
      refine Ev.ifF (by simp) (Ev.step (fun _ => rfl) ?_)
      simp only [impl_CostOk.j0]
      exact Ev.ifT trivial (Ev.now _)
    | true =>
      refine Ev.ifT rfl (Ev.bindC (implRow_eq r 36) (Ev.step (fun _ => rfl) ?_))
      simp only [impl_CostOk.j0]
      cases h3 : inRow r 36 with
      | false => exact Ev.ifT rfl (Ev.now _)
      | true => exact Ev.ifF (by simp) (implDiag_l d i r (by have:=(inRow_iff.1 h3).1;omega) 6 0 rfl)
theorem specCostOk_ev (d i r : List Int) (hd : d.length ≤ 9223372036854775807) (hi : i.length ≤ 9223372036854775807) (hr : r.length ≤ 9223372036854775807) : Ev (fun k => spec_CostOk.f k d i r) (costB d i r):=by
  unfold spec_CostOk.f costB
  refine Ev.bind (specRow_ev d hd 6) ?_
  cases h1 : inRow d 6 with
  | false =>
    refine Ev.ifF (by simp) (Ev.step (fun _ => rfl) ?_)
    simp only [spec_CostOk.j0]
    exact Ev.ifT trivial (Ev.now _)
  | true =>
    refine Ev.ifT rfl (Ev.bind (specRow_ev i hi 6) ?_)
    cases h2 : inRow i 6 with
    | false =>
      refine Ev.ifF (by simp) (Ev.step (fun _ => rfl) ?_)
      simp only [spec_CostOk.j0]
      exact Ev.ifT trivial (Ev.now _)
    | true =>
      refine Ev.ifT rfl (Ev.bind (specRow_ev r hr 36) (Ev.step (fun _ => rfl) ?_))
      simp only [spec_CostOk.j0]
      cases h3 : inRow r 36 with
      | false => exact Ev.ifT rfl (Ev.now _)
      | true => exact Ev.ifF (by simp) (specDiag_l d i r (by have:=(inRow_iff.1 h3).1;omega) 6 0 rfl)
end Go.Proofs.Ytelglbebffdaaaa.Q
namespace Go.Proofs.Ytelglbebffdaaaa.Q
open Go.RowKit Go.Proofs.YtelglbebffdaaaaW.PrintWords Go.Proofs.YtelglbebffdaaaaW.PrintLast Go.Proofs.YtelglbebffdaaaaW.PrintMore Go.Proofs.Ytelglbebffdaaaa.X Go.Proofs.Ytelglbebffdaaaa.Rd
set_option linter.unusedVariables false
set_option linter.unusedSimpArgs false
structure Cur (c : List Int) (i : Int) : Prop where
  lo : 0 ≤ i
  len : c.length ≤ 1048576
end Go.Proofs.Ytelglbebffdaaaa.Q
namespace Go.Proofs.Ytelglbebffdaaaa.X
open Go.RowKit Go.Proofs.YtelglbebffdaaaaW.PrintWords Go.Proofs.YtelglbebffdaaaaW.PrintLast Go.Proofs.YtelglbebffdaaaaW.PrintMore Go.Proofs.Ytelglbebffdaaaa.Q
set_option linter.unusedVariables false
set_option linter.unusedSimpArgs false
structure St (w0 W : World) (g : Nat) (w : World) : Prop where
 cs : ∃ s0 s1 s2,IsS108 w0 w g s0 s1 s2 ∧ Cur s0 s1
 bel : Below w0.heap.size w0 w
 keep : KeepBut W w g none
theorem St.ge {w0 W : World} {g : Nat} {w : World} (h : St w0 W g w) : w0.heap.size ≤ g:=by
 obtain ⟨s0,s1,s2,h1,_⟩:=h.cs
 exact IsS108.ge h1
theorem St.size {w0 W : World} {g : Nat} {w : World} (h : St w0 W g w) : W.heap.size ≤ w.heap.size:=h.keep.1
theorem St.start {w0 W : World} {g : Nat} {w : World} (h : St w0 W g w) : St w0 w g w:=⟨h.cs,h.bel,KeepBut.refl _ _ _⟩
theorem St.below {w0 W : World} {g : Nat} {w w' : World} (h : St w0 W g w) (b : Below w.heap.size w w') : St w0 W g w':=by
 obtain ⟨s0,s1,s2,h1,h2⟩:=h.cs
 exact ⟨⟨s0,s1,s2,IsS108.below h1 b,h2⟩,below_then h.bel (h.bel.size) b,KeepBut.trans h.keep (KeepBut.of_below b g none) (.inl rfl)⟩
theorem St.ch {w0 W : World} {g : Nat} {w w' : World} (h : St w0 W g w) [c : Ch w w'] : St w0 W g w':=h.below c.out
theorem St.grown {w0 W : World} {g : Nat} {w w' : World} {row : Option Nat} (h : St w0 W g w) (hw : w.grownBy w' row) (hne : some g ≠ row) (hb : ∀ k,row = some k → W.heap.size ≤ k) (h0 : w0.heap.size ≤ W.heap.size) : St w0 W g w':=by
 obtain ⟨s0,s1,s2,h1,h2⟩:=h.cs
 refine ⟨⟨s0,s1,s2,IsS108.grown h1 hw hne,h2⟩,?_,?_⟩
 ·have b2 : Below w0.heap.size w w':=⟨hw.os,hw.tape,hw.output,hw.size,fun i hi => hw.block i (by have:=h.bel.size;omega) (fun e => by have:=hb i e.symm;omega)⟩
  exact h.bel.trans b2
 ·refine KeepBut.trans h.keep (KeepBut.of_grown hw g) ?_
  cases row with
  | none => exact .inl rfl
  | some k => exact .inr ⟨k,rfl,hb k rfl⟩
section
variable {w0 W w W1 : World} {g : Nat}
end
end Go.Proofs.Ytelglbebffdaaaa.X
namespace Go.Proofs.Ytelglbebffdaaaa.Q
open Go.RowKit Go.Proofs.YtelglbebffdaaaaW.PrintWords Go.Proofs.YtelglbebffdaaaaW.PrintLast Go.Proofs.YtelglbebffdaaaaW.PrintMore Go.Proofs.Ytelglbebffdaaaa.X Go.Proofs.Ytelglbebffdaaaa.Rd Go.Proofs.Ytelglbebffdaaaa
set_option linter.unusedVariables false
set_option linter.unusedSimpArgs false
def sortP (a b : List NodeI) (L : List (Nat × Nat)) : List PairI :=
  (List.range a.length).flatMap fun i => (L.filter fun p => nodeN a p.1 == i).map fun p => ⟨(i : Int),(nodeN b p.2 : Int)⟩
theorem sortP_mem {a b : List NodeI} {L : List (Nat × Nat)} (ta : Tr a) (hL : ∀ p ∈ L,p.1 < a.length) {x : PairI} : x ∈ sortP a b L ↔ ∃ p ∈ L,x = ⟨(nodeN a p.1 : Int),(nodeN b p.2 : Int)⟩:=by
  unfold sortP
  rw [List.mem_flatMap]
  constructor
  · rintro ⟨i,hi,hx⟩
    obtain ⟨p,hp,rfl⟩:=List.mem_map.1 hx
    obtain ⟨h1,h2⟩:=List.mem_filter.1 hp
    have e : nodeN a p.1 = i:=by simpa using h2
    exact ⟨p,h1,by rw [e]⟩
  · rintro ⟨p,hp,rfl⟩
    exact ⟨nodeN a p.1,List.mem_range.2 (nodeN_lt ta (hL p hp)),List.mem_map.2 ⟨p,List.mem_filter.2 ⟨hp,by simp⟩,rfl⟩⟩
theorem filter_one {α : Type} (f : α → Nat) (L : List α) (hn : L.Pairwise fun x y => f x ≠ f y) (i : Nat) : (L.filter fun p => f p == i).length ≤ 1:=by
  induction L with
  | nil => simp
  | cons x L ih =>
    obtain ⟨h1,h2⟩:=List.pairwise_cons.1 hn
    by_cases c : f x = i
    · rw [List.filter_cons_of_pos (by simpa using c)]
      have : L.filter (fun p => f p == i) = []:=by
        rw [List.filter_eq_nil_iff]
        intro y hy
        have:=h1 y hy
        simp only [beq_iff_eq]
        omega
      rw [this];simp
    · rw [List.filter_cons_of_neg (by simpa using c)]
      exact ih h2
theorem pw_flat {α β : Type} {R : β → β → Prop} (l : List α) (g : α → List β) (h1 : ∀ x ∈ l,(g x).Pairwise R) (h2 : l.Pairwise fun x y => ∀ u ∈ g x,∀ v ∈ g y,R u v) : (l.flatMap g).Pairwise R:=by
  induction l with
  | nil => simp
  | cons x l ih =>
    obtain ⟨k1,k2⟩:=List.pairwise_cons.1 h2
    rw [List.flatMap_cons,List.pairwise_append]
    refine ⟨h1 x List.mem_cons_self,ih (fun y hy => h1 y (List.mem_cons_of_mem _ hy)) k2,?_⟩
    intro u hu v hv
    obtain ⟨y,hy,hv⟩:=List.mem_flatMap.1 hv
    exact k1 y hy u hu v hv
theorem sortP_pw {a b : List NodeI} {L : List (Nat × Nat)} (ta : Tr a) (hL : ∀ p ∈ L,p.1 < a.length) (hn : L.Pairwise fun x y => x.1 ≠ y.1) : (sortP a b L).Pairwise fun x y => x.f0 < y.f0:=by
  refine pw_flat _ _ (fun i _ => ?_) (List.pairwise_lt_range.imp fun {i j} hij => ?_)
  · have h : (L.filter fun p => nodeN a p.1 == i).length ≤ 1:=filter_one (fun p : Nat × Nat => nodeN a p.1) L (hn.imp_of_mem fun {x y} hx hy hxy e => hxy (by
      rw [← rk_nodeN ta (hL x hx),← rk_nodeN ta (hL y hy),e])) i
    generalize (L.filter fun p => nodeN a p.1 == i) = F at h ⊢
    match F,h with
    | [],_ => simp
    | [x],_ => simp
    | x :: y :: z,h => simp at h
  · intro u hu v hv
    obtain ⟨p,_,rfl⟩:=List.mem_map.1 hu
    obtain ⟨q,_,rfl⟩:=List.mem_map.1 hv
    show (i : Int) < (j : Int)
    omega
theorem rising_eq {m n : List PairI} (hm : m.Pairwise fun x y => x.f0 < y.f0) (hn : n.Pairwise fun x y => x.f0 < y.f0) (h : ∀ x,x ∈ m ↔ x ∈ n) : m = n:=by
  induction m generalizing n with
  | nil =>
    cases n with
    | nil => rfl
    | cons y n => exact absurd ((h y).2 List.mem_cons_self) List.not_mem_nil
  | cons x m ih =>
    cases n with
    | nil => exact absurd ((h x).1 List.mem_cons_self) List.not_mem_nil
    | cons y n =>
      obtain ⟨m1,m2⟩:=List.pairwise_cons.1 hm
      obtain ⟨n1,n2⟩:=List.pairwise_cons.1 hn
      have e : x = y:=by
        rcases List.mem_cons.1 ((h x).1 List.mem_cons_self) with c | c
        · exact c
        · rcases List.mem_cons.1 ((h y).2 List.mem_cons_self) with c2 | c2
          · exact c2.symm
          · have:=n1 x c;have:=m1 y c2;omega
      subst e
      congr 1
      refine ih m2 n2 fun z => ?_
      constructor
      · intro hz
        rcases List.mem_cons.1 ((h z).1 (List.mem_cons_of_mem _ hz)) with c | c
        · subst c;have:=m1 z hz;omega
        · exact c
      · intro hz
        rcases List.mem_cons.1 ((h z).2 (List.mem_cons_of_mem _ hz)) with c | c
        · subst c;have:=n1 z hz;omega
        · exact c
end Go.Proofs.Ytelglbebffdaaaa.Q
namespace Go.Proofs.Ytelglbebffdaaaa.Q
open Go.RowKit Go.Proofs.YtelglbebffdaaaaW.PrintWords Go.Proofs.YtelglbebffdaaaaW.PrintLast Go.Proofs.YtelglbebffdaaaaW.PrintMore Go.Proofs.Ytelglbebffdaaaa.X Go.Proofs.Ytelglbebffdaaaa.Rd
set_option linter.unusedVariables false
set_option linter.unusedSimpArgs false
theorem specKids_l (l : List NodeI) (t : Tr l) (i : Nat) (hi : i < l.length) (n : Nat) : ∀ (k : Nat) (acc : List Int),acc.length + n ≤ 100000 → endN l i ≤ k + n → Ev (fun r => spec_KidsOf.l0 r l i acc k) (acc ++ kidsFrom l i n k):=by
  have h24:=t.len24
  have he:=specEndOf_ev l t i hi
  have ha:=specAt_ev l (by omega) (i : Int)
  have hb : hasB l i = true:=(hasB_iff _ _).2 ⟨t,by omega,by omega⟩
  have hs:=endN_spec l hi
  have hd:=(t.chk i hi).d12
  have hd0:=(t.chk i hi).d0
  induction n with
  | zero =>
    intro k acc _ hk
    refine Ev.step (fun _ => rfl) ?_
    simp only [spec_KidsOf.l0,kidsFrom,List.append_nil]
    refine Ev.bind ha (Ev.ifT hb (Ev.bind he ?_))
    refine Ev.step (fun _ => rfl) ?_
    simp only [spec_KidsOf.j1]
    exact Ev.ifF (by simp;omega) (Ev.now _)
  | succ n ih =>
    intro k acc hl hk
    refine Ev.step (fun _ => rfl) ?_
    simp only [spec_KidsOf.l0,kidsFrom]
    refine Ev.bind ha (Ev.ifT hb (Ev.bind he ?_))
    refine Ev.step (fun _ => rfl) ?_
    simp only [spec_KidsOf.j1,rd_dep]
    by_cases c : k < endN l i
    · rw [if_pos c,wrapN (show k ≤ 1048576 by omega),wrap_id (x:=dep l i + 1) (by omega) (by omega)]
      refine Ev.ifT (by simp;omega) (Ev.ifT (by omega) (Ev.ifT (by omega) (Ev.ifT (by omega) (Ev.ifT (by omega) ?_))))
      by_cases c2 : dep l k = dep l i + 1
      · rw [if_pos c2]
        refine Ev.ifT c2 (Ev.ifT (by omega) ?_)
        have:=ih (k + 1) (acc ++ [(k : Int)]) (by simp;omega) (by omega)
        rw [List.append_assoc] at this
        exact this
      · rw [if_neg c2]
        exact Ev.ifF c2 (ih (k + 1) acc (by omega) (by omega))
    · rw [if_neg c,List.append_nil]
      exact Ev.ifF (by simp;omega) (Ev.now _)
theorem specKidsOf_ev (l : List NodeI) (hm : l.length ≤ 9223372036854775807) (a : Int) : Ev (fun r => spec_KidsOf.f r l a) (kidsOf l a):=by
  unfold spec_KidsOf.f
  by_cases h : hasB l a = true
  · obtain ⟨t,h0,h1⟩:=(hasB_iff l a).1 h
    obtain ⟨i,rfl⟩:=Int.eq_ofNat_of_zero_le h0
    have h24:=t.len24
    have hs:=endN_spec l (i:=i) (by omega)
    have:=specKids_l l t i (by omega) l.length (i + 1) [] (by simp;omega) (by omega)
    rw [List.nil_append] at this
    rw [wrapN (show i ≤ 1048576 by omega)]
    unfold kidsOf
    rw [if_pos h,Int.toNat_natCast]
    exact this
  · unfold kidsOf
    rw [if_neg h]
    refine Ev.step (fun _ => rfl) ?_
    simp only [spec_KidsOf.l0]
    refine Ev.bind (specAt_ev l hm a) (Ev.ifF h ?_)
    refine Ev.step (fun _ => rfl) ?_
    simp only [spec_KidsOf.j1]
    exact Ev.ifF (by simp) (Ev.now _)
end Go.Proofs.Ytelglbebffdaaaa.Q
namespace Go.Proofs.Ytelglbebffdaaaa.Q
open Go.RowKit Go.Proofs.YtelglbebffdaaaaW.PrintWords Go.Proofs.YtelglbebffdaaaaW.PrintLast Go.Proofs.YtelglbebffdaaaaW.PrintMore Go.Proofs.Ytelglbebffdaaaa.X Go.Proofs.Ytelglbebffdaaaa.Rd
set_option linter.unusedVariables false
set_option linter.unusedSimpArgs false
theorem specPost_l (l : List NodeI) (i : Int) (kids : List Int) (g : Int → List Int) (hk : ∀ x ∈ kids,Ev (fun r => spec_l6Post.f r l x) (g x)) (hlen : kids.length ≤ 1048576) (d : Nat) : ∀ (j : Nat) (acc : List Int),j + d = kids.length → (acc ++ (kids.drop j).flatMap g).length ≤ 1048576 →
    Ev (fun r => spec_l6Post.l0 r l i acc kids j) (acc ++ (kids.drop j).flatMap g ++ [i]):=by
  induction d with
  | zero =>
    intro j acc hj hl
    refine Ev.step (fun _ => rfl) ?_
    simp only [spec_l6Post.l0]
    rw [List.drop_of_length_le (by omega)] at hl ⊢
    simp only [List.flatMap_nil,List.append_nil] at hl ⊢
    exact Ev.ifF (by omega) (Ev.ifT (by omega) (Ev.now _))
  | succ d ih =>
    intro j acc hj hl
    have hlt : j < kids.length:=by omega
    refine Ev.step (fun _ => rfl) ?_
    simp only [spec_l6Post.l0]
    rw [List.drop_eq_getElem_cons hlt,List.flatMap_cons,← List.append_assoc] at hl ⊢
    have hx:=hk kids[j] (List.getElem_mem hlt)
    refine Ev.ifT (by omega) (Ev.ifT (by omega) ?_)
    simp only [rd,getD_nat kids j _ hlt]
    have h:=ih (j + 1) (acc ++ g kids[j]) (by omega) hl
    simp only [List.length_append] at hl
    rw [wrap_succ hlt (by omega)]
    exact Ev.bind hx (Ev.ifT (by omega) h)
theorem spec_l6Post_ev {l : List NodeI} (t : Tr l) (f : Nat) : ∀ i,i < l.length → endN l i - i ≤ f + 1 → Ev (fun r => spec_l6Post.f r l i) (postN l f i):=by
  have h24:=t.len24
  induction f with
  | zero =>
    intro i hi hf
    have a:=endN_spec l hi
    have k:=specKidsOf_ev l (by omega) i
    rw [kidsOf_eq t hi,kidsL_end l i _ (by omega)] at k
    refine Ev.step (fun _ => rfl) ?_
    simp only [spec_l6Post.f]
    refine Ev.bind k ?_
    exact specPost_l l i [] (fun _ => []) (fun x h => absurd h (List.not_mem_nil)) (by simp) 0 0 [] rfl (by simp)
  | succ f ih =>
    intro i hi hf
    have a:=endN_spec l hi
    have k:=specKidsOf_ev l (by omega) i
    have hm:=kidsOf_mem t hi
    have hl:=kidsOf_len l i
    rw [kidsOf_eq t hi] at k hm hl
    have hP:=(postN_isP t (f + 1) i hi (by omega)).1
    simp only [postN,List.length_append,List.length_singleton] at hP
    refine Ev.step (fun _ => rfl) ?_
    simp only [spec_l6Post.f,postN]
    refine Ev.bind k ?_
    have:=specPost_l l i (kidsL l i (i + 1)) (fun x => postN l f x.toNat) (fun x hx => by
      obtain ⟨j,rfl,j1,j2,j3⟩:=(hm x).1 hx
      have n:=end_nest hi j1 j2
      rw [Int.toNat_natCast]
      exact ih j (by omega) (by omega)) (by omega) _ 0 [] (Nat.zero_add _) (by simp only [List.drop_zero,List.nil_append];omega)
    rw [List.drop_zero,List.nil_append] at this
    exact this
theorem specPost_ev (l : List NodeI) (hm : l.length ≤ 9223372036854775807) : Ev (fun r => spec_PostOrder.f r l) (if trB l = true then pst l else []):=by
  unfold spec_PostOrder.f
  refine Ev.bind (specTreeOk_ev l hm) ?_
  by_cases h : Tr l
  · have h1:=h.len1
    have h2:=h.len24
    rw [if_pos (trB_true h)]
    exact Ev.ifT (trB_true h) (Ev.bind (spec_l6Post_ev h 24 0 (by omega) (by have:=(endN_spec l (i:=0) (by omega)).2.1;omega)) (Ev.now _))
  · rw [if_neg (by rw [trB_false l h];simp)]
    exact Ev.ifF (by rw [trB_false l h];simp) (Ev.now _)
end Go.Proofs.Ytelglbebffdaaaa.Q
namespace Go.Proofs.Ytelglbebffdaaaa.Q
open Go.RowKit Go.Proofs.YtelglbebffdaaaaW.PrintWords Go.Proofs.YtelglbebffdaaaaW.PrintLast Go.Proofs.YtelglbebffdaaaaW.PrintMore Go.Proofs.Ytelglbebffdaaaa.X Go.Proofs.Ytelglbebffdaaaa.Rd
set_option linter.unusedVariables false
set_option linter.unusedSimpArgs false
abbrev NodeL:=S66
def toNode (x : NodeL) : NodeI:=⟨x.f0,x.f1⟩
theorem szNodeS_eq (l : List NodeL) (a : Int) (ha : 0 ≤ a) (ha' : a ≤ 1048576) (hl : l.length ≤ 9223372036854775807) :
    laws_szNodeS.f l a = some (if a < l.length then -1 else a - l.length):=by
  unfold laws_szNodeS.f
  rw [wrap_id (by omega) (by omega)]
  by_cases h : a < l.length
  · rw [if_pos (by omega),if_pos h]
  · rw [if_neg (by omega),if_neg h]
theorem toNodeS_l (l : List NodeL) (hl : l.length ≤ 1048576) (d : Nat) : ∀ (i : Nat) (acc : List NodeI),i + d = l.length → acc.length = l.length → acc.take i = (l.take i).map toNode →
    Ev (fun k => laws_toNodeS.l0 k l acc i) (l.map toNode):=by
  induction d with
  | zero =>
    intro i acc hi ha ht
    have : acc = l.map toNode:=by
      rw [List.take_of_length_le (by omega),List.take_of_length_le (by omega)] at ht
      exact ht
    subst this
    refine Ev.step (f:=fun _ => some (l.map toNode)) (fun k => ?_) (Ev.now _)
    simp only [laws_toNodeS.l0]
    rw [if_neg (by omega)]
  | succ d ih =>
    intro i acc hi ha ht
    have hlt : i < l.length:=by omega
    refine Ev.step (f:=fun k => laws_toNodeS.l0 k l (acc.set i (toNode l[i])) ((i + 1 : Nat) : Int)) (fun k => ?_) (ih (i + 1) (acc.set i (toNode l[i])) (by omega) (by simpa using ha) ?_)
    · simp only [laws_toNodeS.l0]
      rw [if_pos (by omega),if_pos (by omega)]
      simp only [laws_toNode.f,Option.bind_some]
      rw [if_pos (by omega),wrap_succ hlt (by omega)]
      simp only [rd_T66,Int.toNat_natCast,getD_lt l _ hlt]
      rfl
    · rw [take_succ_map toNode l i hlt,take_succ_append _ i (by simp;omega),List.getElem_set_self,List.take_set_of_le (Nat.le_refl i),ht]
theorem toNodeS_ev (l : List NodeL) (hl : l.length ≤ 1048576) : Ev (fun k => laws_toNodeS.f k l) (l.map toNode):=by
  have h:=toNodeS_l l hl l.length 0 (List.replicate l.length z53) (by omega) (by simp) (by simp)
  refine Ev.congr (fun k => ?_) h
  unfold laws_toNodeS.f
  rw [if_pos (by omega),if_pos (by omega),Int.toNat_natCast]
  rfl
theorem eqNodeS_l (l : List NodeI) (hl : l.length ≤ 9223372036854775807) (d : Nat) : ∀ (i : Nat),i + d = l.length → Ev (fun k => laws_eqNodeS.l0 k l l i) true:=by
  induction d with
  | zero =>
    intro i hi
    refine Ev.step (f:=fun _ => some true) (fun k => ?_) (Ev.now _)
    simp only [laws_eqNodeS.l0]
    rw [if_neg (by omega)]
  | succ d ih =>
    intro i hi
    have hlt : i < l.length:=by omega
    refine Ev.step (f:=fun k => laws_eqNodeS.l0 k l l ((i + 1 : Nat) : Int)) (fun k => ?_) (ih (i + 1) (by omega))
    simp only [laws_eqNodeS.l0]
    rw [if_pos (by omega),if_pos (by omega),if_pos (by omega)]
    simp only [laws_eqNode.f,if_true,Option.bind_some]
    rw [wrap_succ hlt hl]
theorem eqNodeS_ev (l : List NodeI) (hl : l.length ≤ 9223372036854775807) : Ev (fun k => laws_eqNodeS.f k l l) true:=by
  refine Ev.congr (fun k => ?_) (eqNodeS_l l hl l.length 0 (by omega))
  unfold laws_eqNodeS.f
  rw [if_pos rfl];rfl
end Go.Proofs.Ytelglbebffdaaaa.Q
namespace Go.Proofs.Ytelglbebffdaaaa.Q
open Go.RowKit Go.Proofs.YtelglbebffdaaaaW.PrintWords Go.Proofs.YtelglbebffdaaaaW.PrintLast Go.Proofs.YtelglbebffdaaaaW.PrintMore Go.Proofs.Ytelglbebffdaaaa.X Go.Proofs.Ytelglbebffdaaaa.Rd
set_option linter.unusedVariables false
set_option linter.unusedSimpArgs false
theorem toIntS_ev (l : List Int) (hl : l.length ≤ 1048576) : Ev (fun k => laws_toIntS.f k l) l:=by
  have h:=mapLoop0 laws_toIntS.l0 (fun _ x => some x) (fun x => x) 0 0 (fun k x acc i => by simp only [laws_toIntS.l0,Option.bind_some,rd]) l (by omega) (fun x _ => Ev.now x)
  rw [List.map_id'] at h
  refine Ev.congr (fun k => ?_) h
  unfold laws_toIntS.f
  rw [if_pos (by omega),if_pos (by omega),Int.toNat_natCast]
theorem eqIntS_ev (l : List Int) (hl : l.length ≤ 9223372036854775807) : Ev (fun k => laws_eqIntS.f k l l) true:=by
  have h:=eqLoop laws_eqIntS.l0 (fun _ x y => some (decide (x = y))) 0 (fun k x y i => by
    simp only [laws_eqIntS.l0,Option.bind_some,rd]
    by_cases h : x.getD i.toNat 0 = y.getD i.toNat 0
    · simp only [h,decide_true,if_true]
    · simp only [h,decide_false,if_false,Bool.false_eq_true]) l hl (fun x _ => by simpa using Ev.now true) l.length 0 (by omega)
  refine Ev.congr (fun k => ?_) h
  unfold laws_eqIntS.f
  rw [if_pos rfl];rfl
end Go.Proofs.Ytelglbebffdaaaa.Q
namespace Go.Proofs.Ytelglbebffdaaaa.Q
open Go.RowKit Go.Proofs.YtelglbebffdaaaaW.PrintWords Go.Proofs.YtelglbebffdaaaaW.PrintLast Go.Proofs.YtelglbebffdaaaaW.PrintMore Go.Proofs.Ytelglbebffdaaaa.X Go.Proofs.Ytelglbebffdaaaa.Rd
set_option linter.unusedVariables false
set_option linter.unusedSimpArgs false
theorem szIntS_eq (l : List Int) (a : Int) (ha : 0 ≤ a) (ha' : a ≤ 1048576) (hl : l.length ≤ 9223372036854775807) :
    laws_szIntS.f l a = some (if a < l.length then -1 else a - l.length):=by
  unfold laws_szIntS.f
  rw [wrap_id (by omega) (by omega)]
  by_cases h : a < l.length
  · rw [if_pos (by omega),if_pos h]
  · rw [if_neg (by omega),if_neg h]
end Go.Proofs.Ytelglbebffdaaaa.Q
namespace Go.Proofs.Ytelglbebffdaaaa.Q
open Go.RowKit Go.Proofs.YtelglbebffdaaaaW.PrintWords Go.Proofs.YtelglbebffdaaaaW.PrintLast Go.Proofs.YtelglbebffdaaaaW.PrintMore Go.Proofs.Ytelglbebffdaaaa.X Go.Proofs.Ytelglbebffdaaaa.Rd
set_option linter.unusedVariables false
set_option linter.unusedSimpArgs false
abbrev CostL:=S25
theorem szCost_eq (d i r : List Int) (a : Int) (ha : 0 ≤ a) (ha' : a ≤ 1048576) (hd : d.length ≤ 9223372036854775807) (hi : i.length ≤ 9223372036854775807) (hr : r.length ≤ 9223372036854775807) :
    ∃ z,laws_szCost.f d i r a = some z ∧ (z < 0 ∨ (0 ≤ z ∧ z = a - d.length - i.length - r.length)):=by
  unfold laws_szCost.f
  rw [szIntS_eq d a ha ha' hd,Option.bind_some]
  by_cases h1 : a < d.length
  · rw [if_pos h1,if_pos (by omega)]
    exact ⟨_,rfl,.inl (by omega)⟩
  rw [if_neg h1,if_neg (by omega),szIntS_eq i _ (by omega) (by omega) hi,Option.bind_some]
  by_cases h2 : a - d.length < i.length
  · rw [if_pos h2,if_pos (by omega)]
    exact ⟨_,rfl,.inl (by omega)⟩
  rw [if_neg h2,if_neg (by omega),szIntS_eq r _ (by omega) (by omega) hr,Option.bind_some]
  by_cases h3 : a - d.length - i.length < r.length
  · rw [if_pos h3,if_pos (by omega)]
    exact ⟨_,rfl,.inl (by omega)⟩
  · rw [if_neg h3,if_neg (by omega)]
    exact ⟨_,rfl,.inr ⟨by omega,rfl⟩⟩
theorem toCost_ev (d i r : List Int) (hd : d.length ≤ 1048576) (hi : i.length ≤ 1048576) (hr : r.length ≤ 1048576) : Ev (fun k => laws_toCost.f k d i r) (d,i,r) :=
  Ev.bind (toIntS_ev d hd) (Ev.bind (toIntS_ev i hi) (Ev.bind (toIntS_ev r hr) (Ev.now _)))
theorem eqCost_ev (d i r : List Int) (hd : d.length ≤ 9223372036854775807) (hi : i.length ≤ 9223372036854775807) (hr : r.length ≤ 9223372036854775807) : Ev (fun k => laws_eqCost.f k d i r d i r) true :=
  Ev.bind (eqIntS_ev d hd) (Ev.ifT rfl (Ev.bind (eqIntS_ev i hi) (Ev.ifT rfl (Ev.bind (eqIntS_ev r hr) (Ev.ifT rfl (Ev.now _))))))
end Go.Proofs.Ytelglbebffdaaaa.Q
namespace Go.Proofs.Ytelglbebffdaaaa.Q
open Go.RowKit Go.Proofs.YtelglbebffdaaaaW.PrintWords Go.Proofs.YtelglbebffdaaaaW.PrintLast Go.Proofs.YtelglbebffdaaaaW.PrintMore Go.Proofs.Ytelglbebffdaaaa.X Go.Proofs.Ytelglbebffdaaaa.Rd
set_option linter.unusedVariables false
set_option linter.unusedSimpArgs false
def heldNode (m : Int) (l : List NodeI) : Prop:=∀ j,(h : j < l.length) → l[j] = ⟨m + 2 * j,m + 2 * j + 1⟩
theorem markNodeS_l (m : Int) (n : Nat) (hm0 : 0 ≤ m) (hm : m + 2 * n ≤ 4611686018427387904) (d : Nat) : ∀ (i : Nat) (l : List NodeI),l.length = n → i + d = n → (∀ j,(h : j < l.length) → j < i → l[j] = ⟨m + 2 * j,m + 2 * j + 1⟩) →
    ∃ r,r.length = n ∧ heldNode m r ∧ Ev (fun k => laws_markNodeS.l0 k l (m + 2 * i) i) (m + 2 * n,r):=by
  induction d with
  | zero =>
    intro i l hl hi hh
    refine ⟨l,hl,fun j h => hh j h (by omega),Ev.step (f:=fun _ => some (m + 2 * n,l)) (fun k => ?_) (Ev.now _)⟩
    simp only [laws_markNodeS.l0]
    rw [if_neg (by omega),show i = n by omega]
  | succ d ih =>
    intro i l hl hi hh
    have hlt : i < l.length:=by omega
    obtain ⟨r,hr,hh',he⟩:=ih (i + 1) (l.set i ⟨m + 2 * i,m + 2 * i + 1⟩) (by simpa using hl) (by omega) (fun j hj hji => by
      rw [List.getElem_set]
      split
      · next e => subst e;rfl
      · exact hh j (by simpa using hj) (by omega))
    refine ⟨r,hr,hh',Ev.step (f:=fun k => laws_markNodeS.l0 k (l.set i ⟨m + 2 * i,m + 2 * i + 1⟩) (m + 2 * ((i + 1 : Nat) : Int)) ((i + 1 : Nat) : Int)) (fun k => ?_) he⟩
    simp only [laws_markNodeS.l0]
    rw [if_pos (by omega),if_pos (by omega),Option.bind_some,wrap_succ hlt (by omega),wrap_id (x:=m + 2 * (i : Int) + 1) (by omega) (by omega),wrap_id (by omega) (by omega)]
    simp only [rd_T53,Int.toNat_natCast,List.set_set,List.getD_eq_getElem?_getD,List.getElem?_set_self hlt,Option.getD_some]
    congr 1
    omega
theorem markNodeS_one (m : Int) (l : List NodeI) (hm0 : 0 ≤ m) (hm : m + 2 * l.length ≤ 4611686018427387904) :
    ∃ r,r.length = l.length ∧ Ev (fun k => laws_markNodeS.f k l m) (m + 2 * l.length,r):=by
  obtain ⟨r,hr,hh,he⟩:=markNodeS_l m l.length hm0 hm l.length 0 l rfl (by omega) (fun j _ h => absurd h (Nat.not_lt_zero _))
  refine ⟨r,hr,Ev.congr (fun k => ?_) he⟩
  unfold laws_markNodeS.f
  simp
end Go.Proofs.Ytelglbebffdaaaa.Q
namespace Go.Proofs.Ytelglbebffdaaaa.Q
open Go.RowKit Go.Proofs.YtelglbebffdaaaaW.PrintWords Go.Proofs.YtelglbebffdaaaaW.PrintLast Go.Proofs.YtelglbebffdaaaaW.PrintMore Go.Proofs.Ytelglbebffdaaaa.X Go.Proofs.Ytelglbebffdaaaa.Rd
set_option linter.unusedVariables false
set_option linter.unusedSimpArgs false
def heldInt (m : Int) (l : List Int) : Prop:=∀ j,(h : j < l.length) → l[j] = m + j
theorem markIntS_l (m : Int) (n : Nat) (hm0 : 0 ≤ m) (hm : m + n ≤ 4611686018427387904) (d : Nat) : ∀ (i : Nat) (l : List Int),l.length = n → i + d = n → (∀ j,(h : j < l.length) → j < i → l[j] = m + j) →
    ∃ r,r.length = n ∧ heldInt m r ∧ Ev (fun k => laws_markIntS.l0 k l (m + i) i) (m + n,r):=by
  induction d with
  | zero =>
    intro i l hl hi hh
    refine ⟨l,hl,fun j h => hh j h (by omega),Ev.step (f:=fun _ => some (m + n,l)) (fun k => ?_) (Ev.now _)⟩
    simp only [laws_markIntS.l0]
    rw [if_neg (by omega),show i = n by omega]
  | succ d ih =>
    intro i l hl hi hh
    have hlt : i < l.length:=by omega
    obtain ⟨r,hr,hh',he⟩:=ih (i + 1) (l.set i (m + i)) (by simpa using hl) (by omega) (fun j hj hji => by
      rw [List.getElem_set]
      split
      · next e => subst e;rfl
      · exact hh j (by simpa using hj) (by omega))
    refine ⟨r,hr,hh',Ev.step (f:=fun k => laws_markIntS.l0 k (l.set i (m + i)) (m + ((i + 1 : Nat) : Int)) ((i + 1 : Nat) : Int)) (fun k => ?_) he⟩
    simp only [laws_markIntS.l0]
    rw [if_pos (by omega),if_pos (by omega),wrap_succ hlt (by omega),wrap_id (x:=m + (i : Int) + 1) (by omega) (by omega)]
    simp only [Int.toNat_natCast]
    rw [show m + (i : Int) + 1 = m + ((i + 1 : Nat) : Int) by omega]
theorem heldIntS_l (m : Int) (r : List Int) (hm0 : 0 ≤ m) (hm : m + r.length ≤ 4611686018427387904) (hr : heldInt m r) (d : Nat) : ∀ (i : Nat),i + d = r.length → Ev (fun k => laws_heldIntS.l0 k r (m + i) i) (m + r.length):=by
  induction d with
  | zero =>
    intro i hi
    refine Ev.step (f:=fun _ => some (m + r.length)) (fun k => ?_) (Ev.now _)
    simp only [laws_heldIntS.l0]
    rw [if_neg (by omega),show i = r.length by omega]
  | succ d ih =>
    intro i hi
    have hlt : i < r.length:=by omega
    refine Ev.step (f:=fun k => laws_heldIntS.l0 k r (m + ((i + 1 : Nat) : Int)) ((i + 1 : Nat) : Int)) (fun k => ?_) (ih (i + 1) (by omega))
    have e:=hr i hlt
    simp only [laws_heldIntS.l0]
    rw [if_pos (by omega),if_pos (by omega)]
    simp only [rd,getD_nat r i _ hlt,e,if_true]
    rw [wrap_id (x:=m + (i : Int) + 1) (by omega) (by omega),wrap_succ hlt (by omega),show m + (i : Int) + 1 = m + ((i + 1 : Nat) : Int) by omega]
theorem markIntS_ev (m : Int) (l : List Int) (hm0 : 0 ≤ m) (hm : m + l.length ≤ 4611686018427387904) :
    ∃ r,r.length = l.length ∧ Ev (fun k => laws_markIntS.f k l m) (m + l.length,r) ∧ Ev (fun k => laws_heldIntS.f k r m) (m + l.length):=by
  obtain ⟨r,hr,hh,he⟩:=markIntS_l m l.length hm0 hm l.length 0 l rfl (by omega) (fun j _ h => absurd h (Nat.not_lt_zero _))
  refine ⟨r,hr,Ev.congr (fun k => ?_) he,?_⟩
  · unfold laws_markIntS.f
    simp
  · have h2:=heldIntS_l m r hm0 (by omega) hh r.length 0 (by omega)
    rw [hr] at h2
    refine Ev.congr (fun k => ?_) h2
    unfold laws_heldIntS.f
    simp
end Go.Proofs.Ytelglbebffdaaaa.Q
namespace Go.Proofs.Ytelglbebffdaaaa.Q
open Go.RowKit Go.Proofs.YtelglbebffdaaaaW.PrintWords Go.Proofs.YtelglbebffdaaaaW.PrintLast Go.Proofs.YtelglbebffdaaaaW.PrintMore Go.Proofs.Ytelglbebffdaaaa.X Go.Proofs.Ytelglbebffdaaaa.Rd
set_option linter.unusedVariables false
set_option linter.unusedSimpArgs false
theorem eqPairS_l (l : List PairI) (hl : l.length ≤ 9223372036854775807) (d : Nat) : ∀ (i : Nat),i + d = l.length → Ev (fun k => laws_eqPairS.l0 k l l i) true:=by
  induction d with
  | zero =>
    intro i hi
    refine Ev.step (f:=fun _ => some true) (fun k => ?_) (Ev.now _)
    simp only [laws_eqPairS.l0]
    rw [if_neg (by omega)]
  | succ d ih =>
    intro i hi
    have hlt : i < l.length:=by omega
    refine Ev.step (f:=fun k => laws_eqPairS.l0 k l l ((i + 1 : Nat) : Int)) (fun k => ?_) (ih (i + 1) (by omega))
    simp only [laws_eqPairS.l0]
    rw [if_pos (by omega),if_pos (by omega),if_pos (by omega)]
    simp only [laws_eqPair.f,if_true,Option.bind_some]
    rw [wrap_succ hlt hl]
theorem eqPairS_ev (l : List PairI) (hl : l.length ≤ 9223372036854775807) : Ev (fun k => laws_eqPairS.f k l l) true:=by
  refine Ev.congr (fun k => ?_) (eqPairS_l l hl l.length 0 (by omega))
  unfold laws_eqPairS.f
  rw [if_pos rfl];rfl
end Go.Proofs.Ytelglbebffdaaaa.Q
namespace Go.Proofs.Ytelglbebffdaaaa.Q
open Go.RowKit Go.Proofs.YtelglbebffdaaaaW.PrintWords Go.Proofs.YtelglbebffdaaaaW.PrintLast Go.Proofs.YtelglbebffdaaaaW.PrintMore Go.Proofs.Ytelglbebffdaaaa.X Go.Proofs.Ytelglbebffdaaaa.Rd
set_option linter.unusedVariables false
set_option linter.unusedSimpArgs false
def heldPair (m : Int) (l : List PairI) : Prop:=∀ j,(h : j < l.length) → l[j] = ⟨m + 2 * j,m + 2 * j + 1⟩
theorem markPairS_l (m : Int) (n : Nat) (hm0 : 0 ≤ m) (hm : m + 2 * n ≤ 4611686018427387904) (d : Nat) : ∀ (i : Nat) (l : List PairI),l.length = n → i + d = n → (∀ j,(h : j < l.length) → j < i → l[j] = ⟨m + 2 * j,m + 2 * j + 1⟩) →
    ∃ r,r.length = n ∧ heldPair m r ∧ Ev (fun k => laws_markPairS.l0 k l (m + 2 * i) i) (m + 2 * n,r):=by
  induction d with
  | zero =>
    intro i l hl hi hh
    refine ⟨l,hl,fun j h => hh j h (by omega),Ev.step (f:=fun _ => some (m + 2 * n,l)) (fun k => ?_) (Ev.now _)⟩
    simp only [laws_markPairS.l0]
    rw [if_neg (by omega),show i = n by omega]
  | succ d ih =>
    intro i l hl hi hh
    have hlt : i < l.length:=by omega
    obtain ⟨r,hr,hh',he⟩:=ih (i + 1) (l.set i ⟨m + 2 * i,m + 2 * i + 1⟩) (by simpa using hl) (by omega) (fun j hj hji => by
      rw [List.getElem_set]
      split
      · next e => subst e;rfl
      · exact hh j (by simpa using hj) (by omega))
    refine ⟨r,hr,hh',Ev.step (f:=fun k => laws_markPairS.l0 k (l.set i ⟨m + 2 * i,m + 2 * i + 1⟩) (m + 2 * ((i + 1 : Nat) : Int)) ((i + 1 : Nat) : Int)) (fun k => ?_) he⟩
    simp only [laws_markPairS.l0]
    rw [if_pos (by omega),if_pos (by omega),Option.bind_some,wrap_succ hlt (by omega),wrap_id (x:=m + 2 * (i : Int) + 1) (by omega) (by omega),wrap_id (by omega) (by omega)]
    simp only [rd_T84,Int.toNat_natCast,List.set_set,List.getD_eq_getElem?_getD,List.getElem?_set_self hlt,Option.getD_some]
    congr 1
    omega
theorem heldPairS_l (m : Int) (r : List PairI) (hm0 : 0 ≤ m) (hm : m + 2 * r.length ≤ 4611686018427387904) (hr : heldPair m r) (d : Nat) : ∀ (i : Nat),i + d = r.length → Ev (fun k => laws_heldPairS.l0 k r (m + 2 * i) i) (m + 2 * r.length):=by
  induction d with
  | zero =>
    intro i hi
    refine Ev.step (f:=fun _ => some (m + 2 * r.length)) (fun k => ?_) (Ev.now _)
    simp only [laws_heldPairS.l0]
    rw [if_neg (by omega),show i = r.length by omega]
  | succ d ih =>
    intro i hi
    have hlt : i < r.length:=by omega
    refine Ev.step (f:=fun k => laws_heldPairS.l0 k r (m + 2 * ((i + 1 : Nat) : Int)) ((i + 1 : Nat) : Int)) (fun k => ?_) (ih (i + 1) (by omega))
    have e:=hr i hlt
    simp only [laws_heldPairS.l0]
    rw [if_pos (by omega),if_pos (by omega)]
    simp only [rd_T84,getD_nat r i _ hlt,e,if_true]
    rw [wrap_id (x:=m + 2 * (i : Int) + 1) (by omega) (by omega),if_pos rfl,wrap_id (by omega) (by omega),wrap_succ hlt (by omega)]
    congr 1
    omega
theorem markPairS_ev (m : Int) (l : List PairI) (hm0 : 0 ≤ m) (hm : m + 2 * l.length ≤ 4611686018427387904) :
    ∃ r,r.length = l.length ∧ Ev (fun k => laws_markPairS.f k l m) (m + 2 * l.length,r) ∧ Ev (fun k => laws_heldPairS.f k r m) (m + 2 * l.length):=by
  obtain ⟨r,hr,hh,he⟩:=markPairS_l m l.length hm0 hm l.length 0 l rfl (by omega) (fun j _ h => absurd h (Nat.not_lt_zero _))
  refine ⟨r,hr,Ev.congr (fun k => ?_) he,?_⟩
  · unfold laws_markPairS.f
    simp
  · have h2:=heldPairS_l m r hm0 (by omega) hh r.length 0 (by omega)
    rw [hr] at h2
    refine Ev.congr (fun k => ?_) h2
    unfold laws_heldPairS.f
    simp
end Go.Proofs.Ytelglbebffdaaaa.Q
