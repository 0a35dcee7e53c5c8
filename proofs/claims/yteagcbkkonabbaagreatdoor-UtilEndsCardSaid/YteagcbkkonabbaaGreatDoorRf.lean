import Derived.Test.YteagcbkkonabbaaGreatDoorRe
set_option linter.all false
namespace Go.RT
set_option linter.unusedVariables false
variable {E : TEnv}
def Invokes (P:Program) (f:FuncId) (args:Array Value) (w:World) (R:Ending→World→Prop):Prop :=
 match (callFunc f args).run P w with
 | .ok (.enter f' args') w'=>Calls P f' args' w' R
 | .ok (.value v) w'=>R (.returned v) w'
 | _=>False
def endOf (ok:Bool) (v:Value):Ending:=cond ok (.returned v) (.panicked [{ v:=v,recovered:=false }])
structure ARes (E:TEnv) where
 ok:Bool
 d:TV E
 H:List (TBox E)
 g:List TGrow
 D:List Nat
 c:List (Nat × Cn E)
def ACalls (P:Program) (f:FuncId) (ds:List (TV E)) (H:List (TBox E)) (gs:List TGrow) (cs:List (Nat × Cn E)) (r:ARes E):Prop :=
 ∀(w:World) (G:Ghost) (args:Array Value),Pins E w G→Boxes E w G H gs→Softs E w G cs→VTs E w G ds args.toList→Invokes P f args w fun e w' =>
  ∃v G',e=endOf r.ok v∧Evol w G w' G'∧Boxes E w' G' r.H r.g∧Softs E w' G' r.c∧VT E w' G' r.d v∧∀(q b:Nat),G.i[q]? = some b→q∉r.D→w'.heap[b]? = w.heap[b]?
structure Outs where
 res:PT
 boxes:List (Option BT)
 rows:List (Option (TypeId × Nat))
 soft:List (Nat × Ty)
def Outs.tys (o:Outs):List Ty:=o.res.tys++(boxesTys o.boxes++softTys o.soft)
structure Shp where
 f:FuncId
 args:List PT
 boxes:List BT
 rows:List (TypeId × Nat)
 out:Outs
 pan:Option Outs
 soft:List (Nat × Ty)
def ptsTys:List PT→List Ty
 | []=>[]
 | p::ps=>p.tys++ptsTys ps
def btsTys:List BT→List Ty
 | []=>[]
 | b::bs=>b.tys++btsTys bs
def Shp.tys (s:Shp):List Ty:=ptsTys s.args++(btsTys s.boxes++softTys s.soft)
@[reducible] def OutP (E : TEnv) (o : Outs) : Option Outs → Type
 | none=>dens E o.tys
 | some q=>dens E o.tys ⊕ dens E q.tys
structure Ctr (E:TEnv) where
 s:Shp
 m:dens E s.tys→Option (OutP E s.out s.pan)
def ptsGet (n:Rn):List PT→List (TV E)→Option (List (Lf E))
 | [],[]=>some []
 | p::ps,d::ds=>match p.get n d,ptsGet n ps ds with
  | some l,some ls=>some (l++ls)
  | _,_=>none
 | _,_=>none
def ptsPut (n:Rn):List PT→List (Lf E)→List (TV E) × List (Lf E)
 | [],ls=>([],ls)
 | p::ps,ls=>((p.put n ls).1::(ptsPut n ps (p.put n ls).2).1,(ptsPut n ps (p.put n ls).2).2)
def btsGet (n:Rn):List BT→List (TBox E)→Option (List (Lf E))
 | [],[]=>some []
 | t::ts,x::xs=>match t.get n x,btsGet n ts xs with
  | some l,some ls=>some (l++ls)
  | _,_=>none
 | _,_=>none
def btsPut (n:Rn):List BT→List (Lf E)→List (TBox E) × List (Lf E)
 | [],ls=>([],ls)
 | t::ts,ls=>((t.put n ls).1::(btsPut n ts (t.put n ls).2).1,(btsPut n ts (t.put n ls).2).2)
def Shp.g0 (s:Shp):List TGrow:=s.rows.map fun p=>⟨0,p.1,p.2⟩
def Shp.n0 (s:Shp):Rn:=⟨List.range s.boxes.length,List.range s.rows.length,s.g0.map (·.ver)⟩
def Shp.ds (s:Shp) (ls:List (Lf E)):List (TV E):=(ptsPut s.n0 s.args ls).1
def Shp.H (s:Shp) (ls:List (Lf E)):List (TBox E):=(btsPut s.n0 s.boxes (ptsPut s.n0 s.args ls).2).1
def Shp.c (s:Shp) (ls:List (Lf E)):List (Nat × Cn E):=softPut some s.soft (btsPut s.n0 s.boxes (ptsPut s.n0 s.args ls).2).2
def Outs.n1 (o:Outs) (g:List TGrow):Rn:=⟨List.range o.boxes.length,List.range o.rows.length,(newRows o.rows g).map (·.ver)⟩
def Outs.ares (o:Outs) (ok:Bool) (H0:List (TBox E)) (g:List TGrow) (ls:List (Lf E)):ARes E :=
 ⟨ok,(o.res.put (o.n1 g) ls).1,boxesPut (o.n1 g) o.boxes H0 (o.res.put (o.n1 g) ls).2,newRows o.rows g,chg 0 o.boxes,softPut some o.soft (boxesRest o.boxes (o.res.put (o.n1 g) ls).2)⟩
def outP (s:Shp) (H0:List (TBox E)):(p:Option Outs)→OutP E s.out p→ARes E
 | none,y=>s.out.ares true H0 s.g0 (putAll s.out.tys y)
 | some _,.inl y=>s.out.ares true H0 s.g0 (putAll s.out.tys y)
 | some q,.inr y=>q.ares false H0 s.g0 (putAll q.tys y)
def Ctr.Ok (P:Program) (C:Ctr E):Prop :=
 ∀x y,C.m x=some y→ACalls P C.s.f (C.s.ds (putAll C.s.tys x)) (C.s.H (putAll C.s.tys x)) C.s.g0 (C.s.c (putAll C.s.tys x)) (outP C.s (C.s.H (putAll C.s.tys x)) C.s.pan y)
structure Link2 (w:World) (G:Ghost) (n:Rn) (G2:Ghost) (n2:Rn):Prop extends Link w G n G2 n2 where
 lb:n2.b.length≤n.b.length
 lg:n2.g.length≤n.g.length
 lv:n2.v.length≤n.v.length
theorem CT.put_rest (n n2:Rn) (c:CT) (ls:List (Lf E)):(c.put n ls).2=(c.put n2 ls).2:=by
 cases c<;>cases ls<;>first | rfl | (rename_i l;cases l<;>rfl)
theorem CT.putL_rest (n n2:Rn):∀(cs:List CT) (ls:List (Lf E)),(CT.putL n cs ls).2=(CT.putL n2 cs ls).2
 | [],ls=>rfl
 | c::cs,ls=>by
  unfold CT.putL
  split
  ·exact CT.putL_rest n n2 cs _
  ·dsimp only
   rw [CT.put_rest n n2 c ls]
   exact CT.putL_rest n n2 cs _
theorem PT.put_rest (n n2:Rn) (p:PT) (ls:List (Lf E)):(p.put n ls).2=(p.put n2 ls).2:=by
 cases p with
 | one c=>exact CT.put_rest n n2 c ls
 | agg cs=>exact CT.putL_rest n n2 cs ls
 | tup cs=>exact CT.putL_rest n n2 cs ls
theorem BT.put_rest (n n2:Rn) (t:BT) (ls:List (Lf E)):(t.put n ls).2=(t.put n2 ls).2:=by
 cases t with
 | cells ty cs=>exact CT.putL_rest n n2 cs ls
 | loop y cs=>exact CT.putL_rest n n2 cs ls
 | map kt vt=>cases ls<;>rfl
 | iter=>cases ls with | nil=>rfl | cons l ls=>cases ls<;>rfl
section
variable {w : World} {G G2 : Ghost} {n n2 : Rn}
theorem getElem?_none_of {α β:Type} {l:List α} {m:List β} {r:Nat} (h:l[r]? = none) (hl:m.length≤l.length):m[r]? = none:=by
 rw [List.getElem?_eq_none_iff] at h ⊢
 omega
theorem caps_move (hL:Link2 w G n G2 n2):∀(caps:List (Nat × Nat)) {vs:List Value},VTs E w G (capsPut n caps:List (TV E)) vs→VTs E w G2 (capsPut n2 caps:List (TV E)) vs
 | [],vs,h=>by simp only [capsPut,VTs] at h ⊢;exact h
 | (r,off)::caps,vs,h=>by
  simp only [capsPut] at h ⊢
  obtain⟨u,us,rfl,h1,h2⟩:=h.cons_inv
  refine .cons ?_ (caps_move hL caps h2)
  cases hr:n.b[r]? with
  | none=>rw [getElem?_none_of hr hL.lb];simp only [VT]
  | some r' =>
   rw [hr] at h1
   simp only [VT] at h1
   obtain⟨b,rfl,hb⟩:=h1
   obtain⟨r2,hr2,hb2⟩:=hL.i r r' b hr hb
   rw [hr2]
   simp only [VT]
   exact⟨b,rfl,hb2⟩
theorem CT.move (hL:Link2 w G n G2 n2) (c:CT) (ls:List (Lf E)) {v:Value} (h:VT E w G (c.put n ls).1 v):VT E w G2 (c.put n2 ls).1 v:=by
 cases c with
 | dat t=>cases ls with
  | nil=>simp only [CT.put,VT]
  | cons l ls=>exact VT.dat_pr h hL.pr
 | any=>simp only [CT.put,VT]
 | pk t=>simp only [CT.put,VT]
 | ptr r off =>
  simp only [CT.put] at h ⊢
  cases hr:n.b[r]? with
  | none=>rw [getElem?_none_of hr hL.lb];simp only [VT]
  | some r' =>
   rw [hr] at h
   simp only [VT] at h
   obtain⟨b,rfl,hb⟩:=h
   obtain⟨r2,hr2,hb2⟩:=hL.i r r' b hr hb
   rw [hr2]
   simp only [VT]
   exact⟨b,rfl,hb2⟩
 | bsl r off m =>
  simp only [CT.put] at h ⊢
  cases hr:n.b[r]? with
  | none=>rw [getElem?_none_of hr hL.lb];simp only [VT]
  | some r' =>
   rw [hr] at h
   simp only [VT] at h
   obtain⟨b,rfl,hb⟩:=h
   obtain⟨r2,hr2,hb2⟩:=hL.i r r' b hr hb
   rw [hr2]
   simp only [VT]
   exact⟨b,rfl,hb2⟩
 | optr r off =>
  cases ls with
  | nil=>simp only [CT.put,VT]
  | cons l ls =>
   simp only [CT.put] at h ⊢
   cases hr:n.b[r]? with
   | none=>rw [getElem?_none_of hr hL.lb];simp only [VT]
   | some r' =>
    rw [hr] at h
    obtain⟨t,x⟩:=l
    cases hn:n2.b[r]? with
    | none=>simp only [VT]
    | some r2' =>
     cases t<;>try (simp only [VT];done)
     cases x<;>simp only [VT] at h ⊢
     ·exact h
     ·obtain⟨b,rfl,hb⟩:=h
      obtain⟨r2,hr2,hb2⟩:=hL.i r r' b hr hb
      rw [hn] at hr2
      cases hr2
      exact⟨b,rfl,hb2⟩
 | mref r =>
  simp only [CT.put] at h ⊢
  cases hr:n.b[r]? with
  | none=>rw [getElem?_none_of hr hL.lb];simp only [VT]
  | some r' =>
   rw [hr] at h
   simp only [VT] at h
   obtain⟨b,rfl,hb⟩:=h
   obtain⟨r2,hr2,hb2⟩:=hL.i r r' b hr hb
   rw [hr2]
   simp only [VT]
   exact⟨b,rfl,hb2⟩
 | yld r =>
  simp only [CT.put] at h ⊢
  cases hr:n.b[r]? with
  | none=>rw [getElem?_none_of hr hL.lb];simp only [VT]
  | some r' =>
   rw [hr] at h
   simp only [VT] at h
   obtain⟨b,rfl,hb⟩:=h
   obtain⟨r2,hr2,hb2⟩:=hL.i r r' b hr hb
   rw [hr2]
   simp only [VT]
   exact⟨b,rfl,hb2⟩
 | gsl j t =>
  cases ls with
  | nil=>simp only [CT.put,VT]
  | cons l ls =>
   simp only [CT.put] at h ⊢
   cases hj:n.g[j]? with
   | none=>rw [getElem?_none_of hj hL.lg];simp only [VT]
   | some j' =>
    cases hvj:n.v[j]? with
    | none =>
     rw [getElem?_none_of hvj hL.lv]
     cases n2.g[j]? <;> simp only [VT]
    | some vv =>
     rw [hj,hvj] at h
     obtain⟨t',x⟩:=l
     cases t' with
     | lst t' =>
      simp only [VT] at h
      obtain⟨hvd,x1,h1,hg,hle,heq⟩:=h
      obtain⟨hxv,j2,v2,x2,q1,q2,q3,q4⟩:=hL.g j j' vv x1 h1 hj hvj hg
      rw [q1,q2]
      simp only [VT]
      exact⟨hvd.mono hL.pr (fun _ _ _ _ h=>h),x2,h1,q3,by omega,fun _=>heq hxv.symm⟩
     | _=>cases n2.g[j]? <;> cases n2.v[j]? <;> simp only [VT]
 | func f caps =>
  simp only [CT.put,VT] at h ⊢
  obtain⟨vs,rfl,h⟩:=h
  exact⟨vs,rfl,caps_move hL caps h⟩
 | gso j =>
  simp only [CT.put] at h ⊢
  cases hj:n.g[j]? with
  | none=>rw [getElem?_none_of hj hL.lg];simp only [VT]
  | some j' =>
   cases hvj:n.v[j]? with
   | none =>
    rw [getElem?_none_of hvj hL.lv]
    cases n2.g[j]? <;> simp only [VT]
   | some vv =>
    rw [hj,hvj] at h
    simp only [VT] at h
    obtain⟨x1,h1,hg,hle,h2,heq⟩:=h
    obtain⟨hxv,j2,v2,x2,q1,q2,q3,q4⟩:=hL.g j j' vv x1 h1 hj hvj hg
    rw [q1,q2]
    simp only [VT]
    exact⟨x2,h1,q3,by omega,h2,fun _=>heq hxv.symm⟩
 | rptr j k =>
  simp only [CT.put] at h ⊢
  cases hj:n.g[j]? with
  | none=>rw [getElem?_none_of hj hL.lg];simp only [VT]
  | some j' =>
   cases hvj:n.v[j]? with
   | none =>
    rw [getElem?_none_of hvj hL.lv]
    cases n2.g[j]? <;> simp only [VT]
   | some vv =>
    rw [hj,hvj] at h
    simp only [VT] at h
    obtain⟨x1,h1,hg,hle,h2,heq⟩:=h
    obtain⟨hxv,j2,v2,x2,q1,q2,q3,q4⟩:=hL.g j j' vv x1 h1 hj hvj hg
    rw [q1,q2]
    simp only [VT]
    exact⟨x2,h1,q3,by omega,h2,fun _=>heq hxv.symm⟩
 | aval t=>cases ls with
  | nil=>simp only [CT.put,VT]
  | cons l ls =>
   obtain⟨t',x⟩:=l
   cases t' with
   | lst t' =>
    simp only [CT.put,VT] at h ⊢
    obtain⟨vs,rfl,h1,h⟩:=h
    exact⟨vs,rfl,h1,h.mono hL.pr (fun _ _ _ _ h=>h)⟩
   | _=>simp only [CT.put,VT]
 | gsb j k=>cases ls with
  | nil=>simp only [CT.put,VT]
  | cons l ls=>cases ls with
   | nil=>simp only [CT.put,VT]
   | cons l' ls =>
    simp only [CT.put] at h ⊢
    cases hj:n.g[j]? with
    | none=>rw [getElem?_none_of hj hL.lg];simp only [VT]
    | some j' =>
     cases hvj:n.v[j]? with
     | none =>
      rw [getElem?_none_of hvj hL.lv]
      cases n2.g[j]? <;> simp only [VT]
     | some vv =>
      rw [hj,hvj] at h
      obtain⟨t,x⟩:=l
      obtain⟨t',x'⟩:=l'
      cases t with
      | int _ =>
       cases t' with
       | int _ =>
        simp only [VT] at h
        obtain⟨x1,h1,hg,hle,h2,heq⟩:=h
        obtain⟨hxv,j2,v2,x2,q1,q2,q3,q4⟩:=hL.g j j' vv x1 h1 hj hvj hg
        rw [q1,q2]
        simp only [VT]
        exact⟨x2,h1,q3,by omega,h2,fun _=>heq hxv.symm⟩
       | _=>cases n2.g[j]? <;> cases n2.v[j]? <;> simp only [VT]
      | _=>cases n2.g[j]? <;> cases n2.v[j]? <;> simp only [VT]
 | nil k=>simpa only [CT.put,VT] using h
 | lb b=>rw [VT.bool_inv h];exact .bool _ _ _
 | li k n=>rw [VT.int_inv h];exact .int _ _ _ _
 | cel t off=>cases ls with
  | nil=>simp only [CT.put,VT]
  | cons l ls =>
   simp only [CT.put,VT] at h ⊢
   obtain⟨b,o,c,rfl,h1,h2⟩:=h
   exact⟨b,o,c,rfl,h1.mono hL.pr (fun _ _ _ _ h=>h),fun l u hl=>⟨hL.pr _ _ (h2 l u hl).1,(h2 l u hl).2⟩⟩
 | iface ty t=>cases ls with
  | nil=>simp only [CT.put,VT]
  | cons l ls =>
   simp only [CT.put] at h ⊢
   rw [VT.eq_def] at h ⊢
   obtain⟨u,rfl,h⟩:=h
   exact⟨u,rfl,VT.dat_pr h hL.pr⟩
theorem VTs.split_app {w:World} {G:Ghost}:∀ {ds es:List (TV E)} {vs:List Value},VTs E w G (ds++es) vs→∃us ts,vs=us++ts∧VTs E w G ds us∧VTs E w G es ts
 | [],_,vs,h=>⟨[],vs,rfl,VTs.nil,h⟩
 | _::_,_,_,h=>by
  obtain⟨u,us,rfl,h1,h2⟩:=VTs.cons_inv h
  obtain⟨us',ts,rfl,h3,h4⟩:=VTs.split_app h2
  exact⟨u::us',ts,rfl,.cons h1 h3,h4⟩
theorem flatP_dat {f:(i:Nat)→E.D i→Option (List (TV E))} (hf:∀i x cs,f i x=some cs→∀d∈cs,∃t y,d=TV.dat (E:=E) t y):∀(t:Ty) (x:t.den E.D) (cs:List (TV E)),flatP E f t x=some cs→∀d∈cs,∃t y,d=TV.dat (E:=E) t y:=by
 intro t
 induction t with
 | int k=>intro x cs h d hd;cases h;exact⟨_,_,List.mem_singleton.1 hd⟩
 | bool=>intro x cs h d hd;cases h;exact⟨_,_,List.mem_singleton.1 hd⟩
 | str=>intro x cs h d hd;cases h;exact⟨_,_,List.mem_singleton.1 hd⟩
 | lst t _=>intro x cs h d hd;cases h;exact⟨_,_,List.mem_singleton.1 hd⟩
 | unit=>intro x cs h d hd;cases h;cases hd
 | ext i=>intro x cs h;exact hf i x cs h
 | pair a b iha ihb =>
  intro x cs h d hd
  simp only [flatP] at h
  cases e1:flatP E f a x.1 with
  | none=>rw [e1] at h;cases h
  | some l =>
   rw [e1] at h
   dsimp only [Option.bind] at h
   cases e2:flatP E f b x.2 with
   | none=>rw [e2] at h;cases h
   | some m =>
    rw [e2] at h
    dsimp only [Option.bind] at h
    cases h
    rcases List.mem_append.1 hd with hd | hd
    ·exact iha x.1 l e1 d hd
    ·exact ihb x.2 m e2 d hd
theorem flatN_dat:∀(n:Nat) (t:Ty) (x:t.den E.D) (cs:List (TV E)),flatN E n t x=some cs→∀d∈cs,∃t y,d=TV.dat (E:=E) t y
 | 0,t,x,cs,h=>flatP_dat (fun _ _ _ h=>by cases h) t x cs h
 | n+1,t,x,cs,h=>flatP_dat (fun i x cs h=>flatN_dat n (E.df i) (E.unf i x) cs h) t x cs h
theorem dats_pr {w:World} {G G2:Ghost} (hp:∀b o,G.pr b o→G2.pr b o):∀ {ds:List (TV E)} {vs:List Value},(∀d∈ds,∃t y,d=TV.dat (E:=E) t y)→VTs E w G ds vs→VTs E w G2 ds vs
 | [],_,_,h=>by simp only [VTs] at h ⊢;exact h
 | d::ds,_,hd,h=>by
  obtain⟨u,us,rfl,h1,h2⟩:=h.cons_inv
  obtain⟨t,y,rfl⟩:=hd d (List.mem_cons_self ..)
  exact .cons (h1.dat_pr hp) (dats_pr hp (fun d h=>hd d (List.mem_cons_of_mem _ h)) h2)
theorem putK_move {w:World} {G G2:Ghost} (hp:∀b o,G.pr b o→G2.pr b o) (ls:List (Lf E)) {vs:List Value} (h:VTs E w G (CT.putK ls).1 vs):VTs E w G2 (CT.putK ls).1 vs:=by
 cases ls with
 | nil=>simp only [CT.putK,VTs] at h ⊢;exact h
 | cons l ls =>
  simp only [CT.putK] at h ⊢
  cases hf:flatN E 4 l.1 l.2 with
  | none=>rw [hf] at h;simp only [VTs] at h ⊢;exact h
  | some cs=>rw [hf] at h;exact dats_pr hp (flatN_dat 4 l.1 l.2 cs hf) h
theorem CT.moveL (hL:Link2 w G n G2 n2):∀(cs:List CT) (ls:List (Lf E)) {vs:List Value},VTs E w G (CT.putL n cs ls).1 vs→VTs E w G2 (CT.putL n2 cs ls).1 vs
 | [],ls,vs,h=>by simp only [CT.putL,VTs] at h ⊢;exact h
 | c::cs,ls,vs,h=>by
  unfold CT.putL at h ⊢
  split at h
  ·rename_i t ht
   obtain⟨us,ts,rfl,h1,h2⟩:=h.split_app
   refine VTs.append (putK_move hL.pr ls h1) ?_
   exact CT.moveL hL cs _ h2
  ·rename_i ht
   dsimp only at h ⊢
   obtain⟨u,us,rfl,h1,h2⟩:=h.cons_inv
   refine .cons (CT.move hL c ls h1) ?_
   rw [CT.put_rest n2 n]
   exact CT.moveL hL cs _ h2
theorem PT.move (hL:Link2 w G n G2 n2) (p:PT) (ls:List (Lf E)) {v:Value} (h:VT E w G (p.put n ls).1 v):VT E w G2 (p.put n2 ls).1 v:=by
 cases p with
 | one c=>exact CT.move hL c ls h
 | agg cs =>
  simp only [PT.put,VT] at h ⊢
  obtain⟨vs,rfl,h1,h⟩:=h
  exact⟨vs,rfl,h1,CT.moveL hL cs ls h⟩
 | tup cs =>
  simp only [PT.put,VT] at h ⊢
  obtain⟨vs,rfl,h⟩:=h
  exact⟨vs,rfl,CT.moveL hL cs ls h⟩
theorem BT.move (hL:Link2 w G n G2 n2) (t:BT) (ls:List (Lf E)) {b:Nat} (h:BoxOk E w G b (t.put n ls).1):BoxOk E w G2 b (t.put n2 ls).1:=by
 cases t with
 | cells ty cs =>
  obtain⟨vs,h1,h2,h3⟩:=h
  exact⟨vs,h1,h2,CT.moveL hL cs ls h3⟩
 | loop y cs =>
  obtain⟨Y,fn,tmps,D,h0,h1,h2⟩:=h
  exact⟨Y,fn,tmps,D,h0,h1,CT.moveL hL cs ls h2⟩
 | map kt vt=>cases ls with
  | nil=>exact h
  | cons l ls =>
   obtain⟨t,x⟩:=l
   simp only [BT.put] at h ⊢
   split at h
   ·rename_i kt' vt' m heq
    obtain⟨es,clock,h1,h2,h3⟩:=h
    cases heq
    exact⟨es,clock,h1,h2,h3.pr hL.pr⟩
   ·exact h
 | iter=>cases ls with
  | nil=>exact h
  | cons l ls=>cases ls with
   | nil=>exact h
   | cons l' ls =>
    simp only [BT.put] at h ⊢
    split at h<;>exact h
end
end Go.RT
namespace Go.RT
set_option linter.unusedVariables false
variable {E : TEnv}
def nodupN:List Nat→Bool
 | []=>true
 | x::xs=>!(xs.elem x)&&nodupN xs
theorem nodupN_ok:∀ {l:List Nat},nodupN l=true→l.Nodup
 | [],_=>List.nodup_nil
 | x::xs,h=>by
  simp only [nodupN,Bool.and_eq_true,Bool.not_eq_true'] at h
  refine List.nodup_cons.2 ⟨fun hm=>?_,nodupN_ok h.2⟩
  rw [List.elem_eq_true_of_mem hm] at h;cases h.1
def pick {α:Type} (l:List α):List Nat→Option (List α)
 | []=>some []
 | i::is=>match l[i]?,pick l is with
  | some x,some xs=>some (x::xs)
  | _,_=>none
theorem pick_get {α:Type} {l:List α}:∀ {is:List Nat} {xs:List α},pick l is=some xs→xs.length=is.length∧∀(r i:Nat),is[r]? = some i→∃x,xs[r]? = some x∧l[i]? = some x
 | [],xs,h=>by cases h;exact⟨rfl,fun r i hr=>by simp at hr⟩
 | i::is,xs,h=>by
  simp only [pick] at h
  split at h<;>try (cases h;done)
  rename_i x ys h1 h2
  cases h
  obtain⟨q1,q2⟩:=pick_get h2
  refine⟨by simp [q1],fun r k hr=>?_⟩
  cases r with
  | zero=>simp at hr;subst hr;exact⟨x,rfl,h1⟩
  | succ r=>simpa using q2 r k (by simpa using hr)
theorem pick_of {α β:Type} {l:List α} {m:List β} (hl:l.length=m.length):∀ {is:List Nat} {xs:List α},pick l is=some xs→∃ys,pick m is=some ys
 | [],xs,h=>⟨[],rfl⟩
 | i::is,xs,h=>by
  simp only [pick] at h
  split at h<;>try (cases h;done)
  rename_i x ys h1 h2
  obtain⟨zs,hz⟩:=pick_of hl h2
  have hi:i<m.length:=by rw [←hl];exact (List.getElem?_eq_some_iff.1 h1).1
  exact⟨m[i]::zs,by simp only [pick,hz,List.getElem?_eq_getElem hi]⟩
def rowsSame:List (TypeId × Nat)→List TGrow→Bool
 | [],[]=>true
 | p::ps,x::xs=>(Nat.beq p.1 x.e&&Nat.beq p.2 x.k)&&rowsSame ps xs
 | _,_=>false
theorem rowsSame_ok:∀ {ps:List (TypeId × Nat)} {xs:List TGrow},rowsSame ps xs=true→ps.length=xs.length∧∀(j:Nat) p x,ps[j]? = some p→xs[j]? = some x→p.1=x.e∧p.2=x.k
 | [],[],_=>⟨rfl,fun j p x h=>by simp at h⟩
 | p::ps,x::xs,h=>by
  simp only [rowsSame,Bool.and_eq_true] at h
  obtain⟨q1,q2⟩:=rowsSame_ok h.2
  refine⟨by simp [q1],fun j p' x' hp hx=>?_⟩
  cases j with
  | zero=>simp at hp hx;subst hp;subst hx;exact⟨Nat.eq_of_beq_eq_true h.1.1,Nat.eq_of_beq_eq_true h.1.2⟩
  | succ j=>exact q2 j p' x' (by simpa using hp) (by simpa using hx)
 | [],_::_,h=>by cases h
 | _::_,[],h=>by cases h
def Shp.enter (s:Shp) (bs gs:List Nat) (st:TS E) (ds:List (TV E)):Option (List (Lf E)) :=
 match pick st.H bs,pick st.g gs with
 | some H,some g=>cond (nodupN bs&&(nodupN gs&&(Nat.beq bs.length s.boxes.length&&rowsSame s.rows g)))
   (match ptsGet ⟨bs,gs,g.map (·.ver)⟩ s.args ds,btsGet ⟨bs,gs,g.map (·.ver)⟩ s.boxes H,softGet (fun q=>gs[q]?) st.c s.soft with
    | some a,some b,some e=>some (a++(b++e))
    | _,_,_=>none) none
 | _,_=>none
section
variable {w : World} {G G2 : Ghost} {n n2 : Rn}
theorem ptsSound (hE:E.Ok) (hL:Link w G n G2 n2):∀ {ps:List PT} {ds:List (TV E)} {ls rest:List (Lf E)} {vs:List Value},ptsGet n ps ds=some ls→VTs E w G ds vs →
  (ptsPut n2 ps (ls++rest)).2=rest∧VTs E w G2 (ptsPut n2 ps (ls++rest)).1 vs
 | [],[],ls,rest,vs,h,hv=>by cases h;simp only [VTs] at hv;subst hv;exact⟨rfl,VTs.nil⟩
 | p::ps,d::ds,ls,rest,vs,h,hv=>by
  simp only [ptsGet] at h
  split at h<;>try (cases h;done)
  rename_i l ls' h1 h2
  cases h
  obtain⟨u,us,rfl,q1,q2⟩:=hv.cons_inv
  obtain⟨e1,e2⟩:=PT.sound hE hL (rest:=ls'++rest) h1 q1
  obtain⟨e3,e4⟩:=ptsSound hE hL (rest:=rest) h2 q2
  simp only [ptsPut,List.append_assoc,e1]
  exact⟨e3,.cons e2 e4⟩
 | [],_::_,_,_,_,h,_=>by cases h
 | _::_,[],_,_,_,h,_=>by cases h
theorem btsSound (hE:E.Ok) (hL:Link w G n G2 n2):∀ {ts:List BT} {xs:List (TBox E)} {ls rest:List (Lf E)} {is:List Nat},btsGet n ts xs=some ls→is.length=xs.length→(∀(q b:Nat) x,is[q]? = some b→xs[q]? = some x→BoxOk E w G b x) →
  (btsPut n2 ts (ls++rest)).1.length=ts.length∧(btsPut n2 ts (ls++rest)).2=rest∧∀(q b:Nat) x,is[q]? = some b→(btsPut n2 ts (ls++rest)).1[q]? = some x→BoxOk E w G2 b x
 | [],[],ls,rest,is,h,_,hv=>by cases h;exact⟨rfl,rfl,fun q b x _ hx=>by simp [btsPut] at hx⟩
 | t::ts,x::xs,ls,rest,is,h,hil,hv=>by
  simp only [btsGet] at h
  split at h<;>try (cases h;done)
  rename_i l ls' h1 h2
  cases h
  cases is with
  | nil=>simp at hil
  | cons i is =>
   obtain⟨e1,e2⟩:=BT.sound hE hL (rest:=ls'++rest) h1 (hv 0 i x (by simp) (by simp))
   obtain⟨e3,e5,e4⟩:=btsSound hE hL (rest:=rest) (is:=is) h2 (by simpa using hil) (fun q b y hq hy=>hv (q+1) b y (by simpa using hq) (by simpa using hy))
   simp only [btsPut,List.append_assoc,e1]
   refine⟨by simp [e3],e5,fun q b y hq hy=>?_⟩
   cases q with
   | zero=>simp at hq hy;subst hq;subst hy;exact e2
   | succ q=>exact e4 q b y (by simpa using hq) (by simpa using hy)
 | [],_::_,_,_,_,h,_,_=>by cases h
 | _::_,[],_,_,_,h,_,_=>by cases h
end
def Ghost.sel (G:Ghost) (is:List Nat) (gs:List (TGrow × Value)):Ghost:=⟨is,gs.map fun x=>({ x.1 with ver:=0 },x.2),G.pr⟩
section
variable {P : Program} {w0 w w' : World} {G0 G G' : Ghost} {st : TS E} {a : Act}
theorem Rel.enter (hE:E.Ok) (hr:Rel E w0 G0 st a w G) {s:Shp} {bs gs:List Nat} {ds:List (TV E)} {ls:List (Lf E)} {vs:List Value} (h:s.enter bs gs st ds=some ls) (hv:VTs E w G ds vs) :
  ∃is gg,pick G.i bs=some is∧pick G.g gs=some gg∧Boxes E w (G.sel is gg) (s.H ls) s.g0∧Softs E w (G.sel is gg) (s.c ls)∧VTs E w (G.sel is gg) (s.ds ls) vs:=by
 unfold Shp.enter at h
 split at h<;>try (cases h;done)
 rename_i H g hH hg
 cases hc:(nodupN bs&&(nodupN gs&&(Nat.beq bs.length s.boxes.length&&rowsSame s.rows g)))<;>rw [hc] at h<;>simp only [cond_true,cond_false] at h
 ·cases h
 simp only [Bool.and_eq_true] at hc
 obtain⟨hn1,hn2,hbl,hrs⟩:=hc
 have hbl:=Nat.eq_of_beq_eq_true hbl
 obtain⟨hrl,hrs⟩:=rowsSame_ok hrs
 split at h<;>try (cases h;done)
 rename_i la lb le hla hlb hle
 cases h
 have hgs:=hr.boxes.gs
 obtain⟨is,hi⟩:=pick_of (m:=G.i) hr.boxes.len.symm hH
 obtain⟨gg,hgg⟩:=pick_of (m:=G.g) (by rw [←hgs];simp) hg
 obtain⟨hHl,hHg⟩:=pick_get hH
 obtain⟨hgl,hgg'⟩:=pick_get hg
 obtain⟨hil,hig⟩:=pick_get hi
 obtain⟨hggl,hggg⟩:=pick_get hgg
 have hgr:∀(j:Nat) x y,gg[j]? = some x→g[j]? = some y→x.1=y:=fun j x y hx hy=>by
  have hj:j<gs.length:=by rw [←hggl];exact (List.getElem?_eq_some_iff.1 hx).1
  obtain⟨x',h1,h2⟩:=hggg j _ (List.getElem?_eq_getElem hj)
  obtain⟨y',h3,h4⟩:=hgg' j _ (List.getElem?_eq_getElem hj)
  rw [hx] at h1;cases h1
  rw [hy] at h3;cases h3
  rw [←hgs,List.getElem?_map,h2] at h4
  simpa using h4
 have hg0:(gg.map fun x=>({ x.1 with ver:=0 }:TGrow))=s.g0:=by
  unfold Shp.g0
  apply List.ext_getElem?
  intro j
  rw [List.getElem?_map,List.getElem?_map]
  by_cases hj:j<gs.length
  ·have h1:j<gg.length:=by omega
   have h2:j<g.length:=by omega
   have h3:j<s.rows.length:=by omega
   rw [List.getElem?_eq_getElem h1,List.getElem?_eq_getElem h3]
   have e1:=hgr j _ _ (List.getElem?_eq_getElem h1) (List.getElem?_eq_getElem h2)
   obtain⟨e2,e3⟩:=hrs j _ _ (List.getElem?_eq_getElem h3) (List.getElem?_eq_getElem h2)
   simp [e1,e2,e3]
  ·rw [List.getElem?_eq_none (by omega),List.getElem?_eq_none (by omega)];rfl
 have hLink:Link w G ⟨bs,gs,g.map (·.ver)⟩ (G.sel is gg) s.n0:=by
  refine⟨fun _ _ h=>h,fun r r' b h1 h2=>?_,fun j j' v x hd h1 h2 h3=>?_⟩
  ·obtain⟨b',h3,h4⟩:=hig r r' h1
   rw [h2] at h4;cases h4
   have hrl:r<s.boxes.length:=by rw [←hbl];exact (List.getElem?_eq_some_iff.1 h1).1
   exact⟨r,by simp [Shp.n0,hrl],h3⟩
  ·obtain⟨x',h4,h5⟩:=hggg j j' h1
   rw [h3] at h5;cases h5
   have hjl:j<gs.length:=(List.getElem?_eq_some_iff.1 h1).1
   have h6:j<g.length:=by omega
   have e1:=hgr j _ _ h4 (List.getElem?_eq_getElem h6)
   have h2:(g.map (·.ver))[j]? = some v:=h2
   rw [List.getElem?_map,List.getElem?_eq_getElem h6] at h2
   have h2:g[j].ver=v:=by simpa using h2
   have h7:j<s.rows.length:=by omega
   refine⟨by simp only at e1;rw [e1];exact h2,j,0,{ x with ver:=0 },by simp [Shp.n0,h7],?_,by simp [Ghost.sel,h4],rfl⟩
   simp [Shp.n0,Shp.g0,h7]
 obtain⟨p1,p2⟩:=ptsSound hE hLink (rest:=lb++le) hla hv
 obtain⟨q1,q5,q2⟩:=btsSound hE hLink (rest:=le) (is:=is) hlb (by omega) (fun q b x hq hx=>by
  have hql:q<bs.length:=by rw [←hil];exact (List.getElem?_eq_some_iff.1 hq).1
  obtain⟨b',h1,h2⟩:=hig q _ (List.getElem?_eq_getElem hql)
  obtain⟨x',h3,h4⟩:=hHg q _ (List.getElem?_eq_getElem hql)
  rw [hq] at h1;cases h1
  rw [hx] at h3;cases h3
  exact hr.boxes.box _ b x h2 h4)
 have hmem:∀b,b∈is→b∈G.i:=fun b hb=>by
  obtain⟨q,hq,rfl⟩:=List.getElem_of_mem hb
  obtain⟨b',h1,h2⟩:=hig q _ (List.getElem?_eq_getElem (by omega))
  rw [List.getElem?_eq_getElem hq] at h1;cases h1
  exact List.mem_of_getElem? h2
 have hrow:∀(j:Nat) x hd,((G.sel is gg).g)[j]? = some (x,hd)→∃j' y,gs[j]? = some j'∧G.g[j']? = some (y,hd)∧x={ y with ver:=0 }:=fun j x hd hj=>by
  simp only [Ghost.sel,List.getElem?_map,Option.map_eq_some_iff] at hj
  obtain⟨y,hy,he⟩:=hj
  have hjl:j<gs.length:=by rw [←hggl];exact (List.getElem?_eq_some_iff.1 hy).1
  obtain⟨x',h4,h5⟩:=hggg j _ (List.getElem?_eq_getElem hjl)
  rw [hy] at h4;cases h4
  simp only [Prod.mk.injEq] at he
  refine⟨_,y.1,List.getElem?_eq_getElem hjl,?_,he.1.symm⟩
  rw [h5,←he.2]
 have hnd:=nodupN_ok hn1
 have hnd2:=nodupN_ok hn2
 refine⟨is,gg,hi,hgg,⟨?_,?_,fun r b x hb hx=>?_,fun b hb=>hr.boxes.lt b (hmem b hb),?_,fun b o hp=>⟨(hr.boxes.prok b o hp).1,fun hm=>(hr.boxes.prok b o hp).2 (hmem b hm)⟩,fun j x hd hj=>?_,fun j j' x hd x' hd' b hj hj' hb hb'=>?_,hr.boxes.glob⟩,?_,p2⟩
 ·show is.length=(s.H (la++(lb++le))).length
  unfold Shp.H
  rw [p1,q1];omega
 ·rw [←hg0];simp [Ghost.sel,List.map_map,Function.comp_def]
 ·unfold Shp.H at hx
  rw [p1] at hx
  exact q2 r b x hb hx
 ·show is.Nodup
  refine List.pairwise_iff_getElem.2 fun p q hp hq hpq he=>?_
  obtain⟨b1,h1,h2⟩:=hig p _ (List.getElem?_eq_getElem (by omega))
  obtain⟨b2,h3,h4⟩:=hig q _ (List.getElem?_eq_getElem (by omega))
  rw [List.getElem?_eq_getElem hp] at h1
  rw [List.getElem?_eq_getElem hq] at h3
  have:b1=b2:=by rw [←Option.some.inj h1,←Option.some.inj h3];exact he
  subst this
  have e1:=List.getElem?_eq_some_iff.1 h2
  have e2:=List.getElem?_eq_some_iff.1 h4
  have:bs[p]=bs[q]:=(List.getElem_inj hr.boxes.nodup).1 (e1.2.trans e2.2.symm)
  have:=(List.getElem_inj hnd).1 this
  omega
 ·obtain⟨j',y,h1,h2,rfl⟩:=hrow j x hd hj
  obtain⟨n,xs,g1,g2,g3⟩:=hr.boxes.grow j' y hd h2
  exact⟨n,xs,g1,g2,fun b hb=>⟨(g3 b hb).1,fun hm=>(g3 b hb).2.1 (hmem b hm),(g3 b hb).2.2⟩⟩
 ·obtain⟨i1,y,h1,h2,rfl⟩:=hrow j x hd hj
  obtain⟨i2,y',h3,h4,rfl⟩:=hrow j' x' hd' hj'
  have:=hr.boxes.apart i1 i2 y hd y' hd' b h2 h4 hb hb'
  subst this
  have e1:=List.getElem?_eq_some_iff.1 h1
  have e2:=List.getElem?_eq_some_iff.1 h3
  exact (List.getElem_inj hnd2).1 (e1.2.trans e2.2.symm)
 ·intro q c0 hm
  have hm:(q,c0)∈softPut some s.soft (btsPut s.n0 s.boxes (ptsPut s.n0 s.args (la++(lb++le))).2).2:=hm
  rw [p1,q5] at hm
  obtain⟨q',j,-,e1,e2,e3⟩:=softGet_put (f2:=some) (rest:=[]) hle (by rw [List.append_nil];exact hm)
  cases e2
  obtain⟨x,hd,h1,h2⟩:=hr.softs j c0 e3
  obtain⟨x',h4,h5⟩:=hggg q j e1
  rw [h1] at h5;cases h5
  exact⟨{ x with ver:=0 },hd,by simp [Ghost.sel,h4],h2.keep rfl rfl (fun _ _ h=>h) (fun _ _ _ _ h=>h) (fun b _=>⟨rfl,fun _ h=>h⟩)⟩
end
end Go.RT
namespace Go.RT
set_option linter.unusedVariables false
variable {E : TEnv}
def setAll {α:Type}:List (Nat × α)→List α→List α
 | [],l=>l
 | (i,x)::ps,l=>setAll ps (l.set i x)
theorem setAll_length {α:Type}:∀(ps:List (Nat × α)) (l:List α),(setAll ps l).length=l.length
 | [],l=>rfl
 | (i,x)::ps,l=>by simp [setAll,setAll_length ps]
theorem setAll_out {α:Type}:∀(ps:List (Nat × α)) (l:List α) (q:Nat),q∉ps.map (·.1)→(setAll ps l)[q]? = l[q]?
 | [],l,q,_=>rfl
 | (i,x)::ps,l,q,h=>by
  simp only [List.map_cons,List.mem_cons,not_or] at h
  rw [setAll,setAll_out ps _ q h.2,List.getElem?_set_ne (fun e=>h.1 e.symm)]
theorem setAll_in {α:Type}:∀(ps:List (Nat × α)) (l:List α) (q:Nat) (x:α),(ps.map (·.1)).Nodup→(q,x)∈ps→q<l.length→(setAll ps l)[q]? = some x
 | (i,y)::ps,l,q,x,hn,hm,hq=>by
  simp only [List.map_cons,List.nodup_cons] at hn
  rcases List.mem_cons.1 hm with he | hm
  ·simp only [Prod.mk.injEq] at he
   obtain⟨rfl,rfl⟩:=he
   rw [setAll,setAll_out ps _ _ hn.1,List.getElem?_set_self hq]
  ·rw [setAll]
   exact setAll_in ps _ q x hn.2 hm (by simpa using hq)
def pairsB {α:Type}:List (Option BT)→List Nat→List α→List (Nat × α)
 | some _::os,i::is,x::xs=>(i,x)::pairsB os is xs
 | none::os,_::is,_::xs=>pairsB os is xs
 | _,_,_=>[]
theorem pairsB_mem {α:Type}:∀ {os:List (Option BT)} {is:List Nat} {xs:List α} {i:Nat} {x:α},(i,x)∈pairsB os is xs→∃(r:Nat) (t:BT),os[r]? = some (some t)∧is[r]? = some i∧xs[r]? = some x
 | some t::os,j::is,y::xs,i,x,h=>by
  rcases List.mem_cons.1 h with he | h
  ·cases he;exact⟨0,t,rfl,rfl,rfl⟩
  ·obtain⟨r,t',h1,h2,h3⟩:=pairsB_mem h
   exact⟨r+1,t',by simpa using h1,by simpa using h2,by simpa using h3⟩
 | none::os,j::is,y::xs,i,x,h=>by
  obtain⟨r,t',h1,h2,h3⟩:=pairsB_mem (os:=os) (is:=is) (xs:=xs) h
  exact⟨r+1,t',by simpa using h1,by simpa using h2,by simpa using h3⟩
 | [],_,_,_,_,h=>by cases h
 | some _::_,[],_,_,_,h=>by cases h
 | none::_,[],_,_,_,h=>by cases h
 | some _::_,_::_,[],_,_,h=>by cases h
 | none::_,_::_,[],_,_,h=>by cases h
theorem mem_pairsB {α:Type}:∀ {os:List (Option BT)} {is:List Nat} {xs:List α} (r:Nat) {t:BT} {i:Nat} {x:α},os[r]? = some (some t)→is[r]? = some i→xs[r]? = some x→(i,x)∈pairsB os is xs
 | o::os,j::is,y::xs,0,t,i,x,h1,h2,h3=>by
  simp at h1 h2 h3;subst h1;subst h2;subst h3
  simp [pairsB]
 | o::os,j::is,y::xs,r+1,t,i,x,h1,h2,h3=>by
  have:=mem_pairsB (os:=os) (is:=is) (xs:=xs) r (by simpa using h1) (by simpa using h2) (by simpa using h3)
  cases o<;>simp [pairsB,this]
 | [],_,_,_,_,_,_,h,_,_=>by simp at h
 | _::_,[],_,_,_,_,_,_,h,_=>by simp at h
 | _::_,_::_,[],_,_,_,_,_,_,h=>by simp at h
theorem pairsB_nodup {α:Type}:∀ {os:List (Option BT)} {is:List Nat} {xs:List α},is.Nodup→((pairsB os is xs).map (·.1)).Nodup
 | some t::os,j::is,y::xs,h=>by
  rw [List.nodup_cons] at h
  simp only [pairsB,List.map_cons,List.nodup_cons]
  refine⟨fun hm=>?_,pairsB_nodup h.2⟩
  obtain⟨p,hp,he⟩:=List.mem_map.1 hm
  obtain⟨i,x⟩:=p
  obtain⟨r,t',-,h2,-⟩:=pairsB_mem hp
  exact h.1 (by rw [←show i=j from he];exact List.mem_of_getElem? h2)
 | none::os,j::is,y::xs,h=>pairsB_nodup (os:=os) (xs:=xs) (List.nodup_cons.1 h).2
 | [],_,_,_=>List.nodup_nil
 | some _::_,[],_,_=>List.nodup_nil
 | none::_,[],_,_=>List.nodup_nil
 | some _::_,_::_,[],_=>List.nodup_nil
 | none::_,_::_,[],_=>List.nodup_nil
theorem chg_mem:∀ {bs:List (Option BT)} {r q:Nat},r+q∈chg r bs→∃t,bs[q]? = some (some t)
 | [],_,_,h=>by cases h
 | none::bs,r,q,h=>by
  simp only [chg] at h
  cases q with
  | zero =>
   have key:∀(bs:List (Option BT)) (r x:Nat),x∈chg r bs→r≤x:=by
    intro bs
    induction bs with
    | nil=>intro r x h;cases h
    | cons o bs ih =>
     intro r x h
     cases o with
     | none=>have:=ih (r+1) x h;omega
     | some t=>rcases List.mem_cons.1 h with rfl | h;exact Nat.le_refl _;have:=ih (r+1) x h;omega
   have:=key bs (r+1) _ h;omega
  | succ q =>
   obtain⟨t,ht⟩:=chg_mem (bs:=bs) (r:=r+1) (q:=q) (by rw [show r+1+q=r+(q+1) by omega];exact h)
   exact⟨t,by simpa using ht⟩
 | some t::bs,r,q,h=>by
  cases q with
  | zero=>exact⟨t,rfl⟩
  | succ q =>
   simp only [chg] at h
   rcases List.mem_cons.1 h with he | h
   ·omega
   ·obtain⟨t,ht⟩:=chg_mem (bs:=bs) (r:=r+1) (q:=q) (by rw [show r+1+q=r+(q+1) by omega];exact h)
    exact⟨t,by simpa using ht⟩
def rowAt:Option (TypeId × Nat)→Option TGrow→TGrow
 | none,some x=>x
 | some p,some x=>⟨x.ver+1,p.1,p.2⟩
 | some p,none=>⟨0,p.1,p.2⟩
 | none,none=>⟨0,0,0⟩
theorem newRows_length:∀(rs:List (Option (TypeId × Nat))) (g:List TGrow),(newRows rs g).length=rs.length
 | [],_=>rfl
 | none::rs,_::g=>by simp [newRows,newRows_length rs g]
 | some _::rs,_::g=>by simp [newRows,newRows_length rs g]
 | some _::rs,[]=>by simp [newRows,newRows_length rs []]
 | none::rs,[]=>by simp [newRows,newRows_length rs []]
theorem newRows_get:∀(rs:List (Option (TypeId × Nat))) (g:List TGrow) (j:Nat) (o:Option (TypeId × Nat)),rs[j]? = some o→(newRows rs g)[j]? = some (rowAt o g[j]?)
 | [],_,_,_,h=>by simp at h
 | r::rs,x::g,0,o,h=>by simp at h;subst h;cases r<;>simp [newRows,rowAt]
 | r::rs,[],0,o,h=>by simp at h;subst h;cases r<;>simp [newRows,rowAt]
 | r::rs,x::g,j+1,o,h=>by
  have:=newRows_get rs g j o (by simpa using h)
  cases r<;>simpa [newRows] using this
 | r::rs,[],j+1,o,h=>by
  have:=newRows_get rs [] j o (by simpa using h)
  cases r<;>simpa [newRows] using this
theorem boxesPut_length (n:Rn):∀(bs:List (Option BT)) (H:List (TBox E)) (ls:List (Lf E)),(boxesPut n bs H ls).length=bs.length
 | [],_,_=>rfl
 | none::bs,H,ls=>by simp [boxesPut,boxesPut_length n bs]
 | some t::bs,H,ls=>by simp [boxesPut,boxesPut_length n bs]
theorem boxesPut_move {w:World} {G G2:Ghost} {n n2:Rn} (hL:Link2 w G n G2 n2):∀(bs:List (Option BT)) (H H':List (TBox E)) (ls:List (Lf E)) (r:Nat) {t:BT} {b:Nat} {x y:TBox E},bs[r]? = some (some t) →
  (boxesPut n bs H ls)[r]? = some x→(boxesPut n2 bs H' ls)[r]? = some y→BoxOk E w G b x→BoxOk E w G2 b y
 | [],_,_,_,_,_,_,_,_,h,_,_,_=>by simp at h
 | none::bs,H,H',ls,r+1,t,b,x,y,h,hx,hy,hb=>boxesPut_move hL bs H.tail H'.tail ls r (by simpa using h) (by simpa [boxesPut] using hx) (by simpa [boxesPut] using hy) hb
 | none::bs,H,H',ls,0,t,b,x,y,h,hx,hy,hb=>by simp at h
 | some t'::bs,H,H',ls,0,t,b,x,y,h,hx,hy,hb=>by
  simp [boxesPut] at hx hy
  subst hx;subst hy
  exact BT.move hL t' ls hb
 | some t'::bs,H,H',ls,r+1,t,b,x,y,h,hx,hy,hb=>by
  simp only [boxesPut,List.getElem?_cons_succ] at hx hy
  rw [BT.put_rest n2 n] at hy
  exact boxesPut_move hL bs H.tail H'.tail _ r (by simpa using h) hx hy hb
def someFrom:Nat→List (Option BT)→Bool
 | 0,[]=>true
 | 0,some _::bs=>someFrom 0 bs
 | 0,none::_=>false
 | _+1,[]=>false
 | n+1,_::bs=>someFrom n bs
theorem someFrom_ok:∀ {n:Nat} {bs:List (Option BT)},someFrom n bs=true→n≤bs.length∧∀r,n≤r→r<bs.length→∃t,bs[r]? = some (some t)
 | 0,[],_=>⟨Nat.le_refl _,fun r _ h=>by simp at h⟩
 | 0,some t::bs,h=>by
  obtain⟨_,q⟩:=someFrom_ok (n:=0) (bs:=bs) h
  refine⟨Nat.zero_le _,fun r _ hr=>?_⟩
  cases r with
  | zero=>exact⟨t,rfl⟩
  | succ r=>simpa using q r (Nat.zero_le _) (by simpa using hr)
 | 0,none::_,h=>by cases h
 | _+1,[],h=>by cases h
 | n+1,o::bs,h=>by
  obtain⟨q1,q2⟩:=someFrom_ok (n:=n) (bs:=bs) h
  refine⟨by simpa using q1,fun r h1 h2=>?_⟩
  cases r with
  | zero=>omega
  | succ r=>simpa using q2 r (by omega) (by simpa using h2)
def cDrops (gs:List Nat):List (Nat × Cn E)→List (Nat × Cn E)
 | []=>[]
 | p::cs=>cond (gs.elem p.1) (cDrops gs cs) (p::cDrops gs cs)
theorem cDrops_mem {gs:List Nat}:∀ {cs:List (Nat × Cn E)} {i:Nat} {c:Cn E},(i,c)∈cDrops gs cs→(i,c)∈cs∧i∉gs
 | [],i,c,h=>by cases h
 | p::cs,i,c,h=>by
  simp only [cDrops] at h
  cases hb:gs.elem p.1<;>rw [hb] at h<;>simp only [cond_true,cond_false] at h
  ·rcases List.mem_cons.1 h with h | h
   ·refine⟨by rw [h];simp,fun e=>?_⟩
    rw [←h] at hb
    simp only at hb
    rw [List.elem_eq_true_of_mem e] at hb
    cases hb
   ·exact⟨List.mem_cons_of_mem _ (cDrops_mem h).1,(cDrops_mem h).2⟩
  ·exact⟨List.mem_cons_of_mem _ (cDrops_mem h).1,(cDrops_mem h).2⟩
theorem softPut_some {f:Nat→Option Nat}:∀ {ps:List (Nat × Ty)} {ls:List (Lf E)} {i:Nat} {c:Cn E},(i,c)∈softPut f ps ls→∃q,f q=some i∧(q,c)∈softPut some ps ls
 | [],ls,i,c,h=>by cases ls<;>cases h
 | p::ps,[],i,c,h=>by cases h
 | p::ps,l::ls,i,c,h=>by
  obtain⟨q,t⟩:=p
  obtain⟨t',x⟩:=l
  simp only [softPut] at h ⊢
  cases hf:f q with
  | none =>
   rw [hf] at h
   obtain⟨q',e1,e2⟩:=softPut_some (ps:=ps) (ls:=ls) (by cases t'<;>exact h)
   refine⟨q',e1,?_⟩
   cases t'<;>first | exact e2 | exact List.mem_cons_of_mem _ e2
  | some i' =>
   rw [hf] at h
   cases t' with
   | lst t' =>
    rcases List.mem_cons.1 h with e | h
    ·cases e;exact⟨q,hf,List.mem_cons_self ..⟩
    ·obtain⟨q',e1,e2⟩:=softPut_some (ps:=ps) (ls:=ls) h
     exact⟨q',e1,List.mem_cons_of_mem _ e2⟩
   | _ =>
    obtain⟨q',e1,e2⟩:=softPut_some (ps:=ps) (ls:=ls) h
    exact⟨q',e1,e2⟩
def Outs.n2 (o:Outs) (bs gs:List Nat) (st:TS E):Rn :=
 ⟨bs++List.range' st.H.length (o.boxes.length - bs.length),gs++List.range' st.g.length (o.rows.length - gs.length),(newRows o.rows ((pick st.g gs).getD [])).map (·.ver)⟩
def Outs.val (o:Outs) (bs gs:List Nat) (st:TS E) (ls:List (Lf E)):TV E:=(o.res.put (o.n2 bs gs st) ls).1
def Outs.hc (o:Outs) (bs gs:List Nat) (st:TS E) (ls:List (Lf E)):List (TBox E):=boxesPut (o.n2 bs gs st) o.boxes [] (o.res.put (o.n2 bs gs st) ls).2
def Outs.after (o:Outs) (bs gs:List Nat) (st:TS E) (ls:List (Lf E)):TS E :=
 { st with
   H:=setAll (pairsB o.boxes bs (o.hc bs gs st ls)) st.H++(o.hc bs gs st ls).drop bs.length
   g:=setAll (gs.zip (newRows o.rows ((pick st.g gs).getD []))) st.g++(newRows o.rows ((pick st.g gs).getD [])).drop gs.length
   d:=(pairsB o.boxes bs (o.hc bs gs st ls)).map (·.1)++st.d
   c:=softPut (fun q=>(o.n2 bs gs st).g[q]?) o.soft (boxesRest o.boxes (o.res.put (o.n2 bs gs st) ls).2)++cDrops gs st.c }
theorem zip_nodup {α:Type}:∀ {l:List Nat} {m:List α},l.Nodup→((l.zip m).map (·.1)).Nodup
 | [],_,_=>List.nodup_nil
 | _::_,[],_=>List.nodup_nil
 | x::l,y::m,h=>by
  rw [List.nodup_cons] at h
  simp only [List.zip_cons_cons,List.map_cons,List.nodup_cons]
  refine⟨fun hm=>h.1 ?_,zip_nodup h.2⟩
  obtain⟨p,hp,he⟩:=List.mem_map.1 hm
  rw [←he]
  exact (List.of_mem_zip hp).1
theorem mem_zip_get {α:Type}:∀ {l:List Nat} {m:List α} (j:Nat) {i:Nat} {x:α},l[j]? = some i→m[j]? = some x→(i,x)∈l.zip m
 | y::l,z::m,0,i,x,h1,h2=>by simp at h1 h2;subst h1;subst h2;simp
 | y::l,z::m,j+1,i,x,h1,h2=>by
  have:=mem_zip_get (l:=l) (m:=m) j (by simpa using h1) (by simpa using h2)
  simp [this]
 | [],_,_,_,_,h,_=>by simp at h
 | _::_,[],_,_,_,_,h=>by simp at h
end Go.RT
namespace Go.RT
set_option linter.unusedVariables false
variable {E : TEnv}
section
variable {P : Program} {w0 w w' : World} {G0 G G' : Ghost} {st : TS E} {a : Act}
theorem Rel.leave (hr:Rel E w0 G0 st a w G) {bs gs is:List Nat} {gg:List (TGrow × Value)} (hi:pick G.i bs=some is) (hg:pick G.g gs=some gg) (hn1:bs.Nodup) (hn2:gs.Nodup) (o:Outs)
  (hb:someFrom bs.length o.boxes=true) (hgl:gs.length≤o.rows.length) {H0:List (TBox E)} {ls:List (Lf E)} {v:Value} (hE:Evol w (G.sel is gg) w' G')
  (hB:Boxes E w' G' (boxesPut (o.n1 ((G.sel is gg).g.map (·.1))) o.boxes H0 (o.res.put (o.n1 ((G.sel is gg).g.map (·.1))) ls).2) (newRows o.rows ((G.sel is gg).g.map (·.1))))
  (hS:Softs E w' G' (softPut some o.soft (boxesRest o.boxes (o.res.put (o.n1 ((G.sel is gg).g.map (·.1))) ls).2)))
  (hv:VT E w' G' (o.res.put (o.n1 ((G.sel is gg).g.map (·.1))) ls).1 v) (hfix:∀(q b:Nat),is[q]? = some b→q∉chg 0 o.boxes→w'.heap[b]? = w.heap[b]?) :
  ∃Gn,Rel E w0 G0 (o.after bs gs st ls) a w' Gn∧VT E w' Gn (o.val bs gs st ls) v:=by
 obtain⟨hbl,hsome⟩:=someFrom_ok hb
 obtain⟨hil,hig⟩:=pick_get hi
 obtain⟨hggl,hggg⟩:=pick_get hg
 have hlen:=hr.boxes.len
 have hgs:=hr.boxes.gs
 have hgl0:G.g.length=st.g.length:=hr.rows_len
 have hpick:pick st.g gs=some (gg.map (·.1)):=by
  have key:∀(l:List Nat) (ys:List (TGrow × Value)),pick G.g l=some ys→pick st.g l=some (ys.map (·.1)):=by
   intro l
   induction l with
   | nil=>intro ys h;cases h;rfl
   | cons i l ih =>
    intro ys h
    simp only [pick] at h
    split at h<;>try (cases h;done)
    rename_i x xs h1 h2
    cases h
    have:st.g[i]? = some x.1:=by rw [←hgs,List.getElem?_map,h1];rfl
    simp only [pick,this,ih xs h2,List.map_cons]
  exact key gs gg hg
 have hpg:(pick st.g gs).getD []=gg.map (·.1):=by rw [hpick];rfl
 let g0:List TGrow:=(G.sel is gg).g.map (·.1)
 have hg0l:g0.length=gs.length:=by simp [g0,Ghost.sel,hggl]
 let nc:=newRows o.rows g0
 let ng:=newRows o.rows (gg.map (·.1))
 have hncl:nc.length=o.rows.length:=newRows_length _ _
 have hngl:ng.length=o.rows.length:=newRows_length _ _
 have hG'i:G'.i.length=o.boxes.length:=by rw [hB.len,boxesPut_length]
 have hG'g:G'.g.map (·.1)=nc:=hB.gs
 have hG'gl:G'.g.length=o.rows.length:=by rw [←hncl,←hG'g];simp
 have hG'is:∀(r b:Nat),is[r]? = some b→G'.i[r]? = some b:=fun r b h=>hE.goes.i r b h
 let ngg:List (TGrow × Value):=ng.zip (G'.g.map (·.2))
 have hnggl:ngg.length=o.rows.length:=by simp [ngg,hngl,hG'gl]
 have hngg1:ngg.map (·.1)=ng:=by
  simp only [ngg]
  rw [List.map_fst_zip]
  simp [hngl,hG'gl]
 let Gn:Ghost:=⟨G.i++G'.i.drop bs.length,setAll (gs.zip ngg) G.g++ngg.drop gs.length,G'.pr⟩
 have hent:∀(j:Nat) y,ngg[j]? = some y→∃ro x' ,o.rows[j]? = some ro∧G'.g[j]? = some (x',y.2)∧x'=rowAt ro g0[j]?∧y.1=rowAt ro (gg.map (·.1))[j]?:=by
  intro j y hj
  have hjl:j<o.rows.length:=by rw [←hnggl];exact (List.getElem?_eq_some_iff.1 hj).1
  have hro:=List.getElem?_eq_getElem hjl
  have h1:=newRows_get o.rows (gg.map (·.1)) j _ hro
  have h2:=newRows_get o.rows g0 j _ hro
  have hjg:j<G'.g.length:=by omega
  have e1:y.1=rowAt o.rows[j] (gg.map (·.1))[j]?:=by
   have:(ngg.map (·.1))[j]? = some y.1:=by simp [hj]
   rw [hngg1] at this
   rw [show ng[j]? = _ from h1] at this
   exact (Option.some.inj this).symm
  have e2:y.2=G'.g[j].2:=by
   obtain⟨hjn,he⟩:=List.getElem?_eq_some_iff.1 hj
   rw [←he]
   simp [ngg]
  have e3:G'.g[j].1=rowAt o.rows[j] g0[j]?:=by
   have:(G'.g.map (·.1))[j]? = some G'.g[j].1:=by simp [hjg]
   rw [hG'g,show nc[j]? = _ from h2] at this
   exact (Option.some.inj this).symm
  refine⟨o.rows[j],G'.g[j].1,hro,?_,e3,e1⟩
  rw [List.getElem?_eq_getElem hjg,e2]
 have hold:∀(j j':Nat) x h,gs[j]? = some j'→G.g[j']? = some (x,h)→gg[j]? = some (x,h)∧g0[j]? = some { x with ver:=0 }∧(gg.map (·.1))[j]? = some x:=by
  intro j j' x h h1 h2
  obtain⟨y,h3,h4⟩:=hggg j j' h1
  rw [h2] at h4;cases h4
  refine⟨h3,?_,by simp [h3]⟩
  simp [g0,Ghost.sel,h3]
 have hrow1:∀(j j':Nat) x h,gs[j]? = some j'→G.g[j']? = some (x,h)→∃y,ngg[j]? = some y∧x.ver≤y.1.ver∧(x.ver=y.1.ver→y.2=h):=by
  intro j j' x h h1 h2
  have hjl:j<gs.length:=(List.getElem?_eq_some_iff.1 h1).1
  have hjn:j<ngg.length:=by omega
  obtain⟨ro,x',q1,q2,q3,q4⟩:=hent j _ (List.getElem?_eq_getElem hjn)
  obtain⟨o1,o2,o3⟩:=hold j j' x h h1 h2
  rw [o2] at q3
  rw [o3] at q4
  refine⟨_,List.getElem?_eq_getElem hjn,?_,fun e=>?_⟩
  ·rw [q4];cases ro<;>simp [rowAt]
  ·rw [q4] at e
   cases ro with
   | some p=>simp [rowAt] at e
   | none =>
    simp only [rowAt] at q3
    have hsel:((G.sel is gg).g)[j]? = some ({ x with ver:=0 },h):=by simp [Ghost.sel,o1]
    obtain⟨x2,h3,r1,r2,r3⟩:=hE.goes.g j _ h hsel
    rw [q2] at r1
    cases r1
    exact r3 (by rw [q3])
 have hgn:∀(q:Nat) y,Gn.g[q]? = some y→(q∉gs∧G.g[q]? = some y)∨∃j,ngg[j]? = some y∧((gs[j]? = some q∧q<G.g.length)∨(gs.length≤j∧q=G.g.length+(j - gs.length))):=by
  intro q y hq
  have hq:(setAll (gs.zip ngg) G.g++ngg.drop gs.length)[q]? = some y:=hq
  by_cases hql:q<G.g.length
  ·rw [List.getElem?_append_left (by rw [setAll_length];exact hql)] at hq
   by_cases hm:q∈gs
   ·obtain⟨j,hj,rfl⟩:=List.getElem_of_mem hm
    have hjn:j<ngg.length:=by omega
    rw [setAll_in (gs.zip ngg) G.g gs[j] ngg[j] (zip_nodup hn2) (mem_zip_get j (List.getElem?_eq_getElem hj) (List.getElem?_eq_getElem hjn)) hql] at hq
    cases hq
    exact .inr ⟨j,List.getElem?_eq_getElem hjn,.inl ⟨List.getElem?_eq_getElem hj,hql⟩⟩
   ·rw [setAll_out _ _ q (fun hmm=>hm (by obtain⟨p,hp,he⟩:=List.mem_map.1 hmm;rw [←he];exact (List.of_mem_zip hp).1))] at hq
    exact .inl ⟨hm,hq⟩
  ·rw [List.getElem?_append_right (by rw [setAll_length];omega),setAll_length,List.getElem?_drop] at hq
   exact .inr ⟨gs.length+(q - G.g.length),hq,.inr ⟨by omega,by omega⟩⟩
 have hgn_in:∀(j q:Nat) y,gs[j]? = some q→q<G.g.length→ngg[j]? = some y→Gn.g[q]? = some y:=by
  intro j q y h1 h2 h3
  show (setAll (gs.zip ngg) G.g++ngg.drop gs.length)[q]? = some y
  rw [List.getElem?_append_left (by rw [setAll_length];exact h2)]
  exact setAll_in (gs.zip ngg) G.g q y (zip_nodup hn2) (mem_zip_get j h1 h3) h2
 have hgn_out:∀(q:Nat) y,q∉gs→G.g[q]? = some y→Gn.g[q]? = some y:=by
  intro q y h1 h2
  have hql:=(List.getElem?_eq_some_iff.1 h2).1
  show (setAll (gs.zip ngg) G.g++ngg.drop gs.length)[q]? = some y
  rw [List.getElem?_append_left (by rw [setAll_length];exact hql),setAll_out _ _ q (fun hmm=>h1 (by obtain⟨p,hp,he⟩:=List.mem_map.1 hmm;rw [←he];exact (List.of_mem_zip hp).1))]
  exact h2
 have hgn_new:∀(j:Nat) y,gs.length≤j→ngg[j]? = some y→Gn.g[G.g.length+(j - gs.length)]? = some y:=by
  intro j y h1 h2
  show (setAll (gs.zip ngg) G.g++ngg.drop gs.length)[G.g.length+(j - gs.length)]? = some y
  rw [List.getElem?_append_right (by rw [setAll_length];omega),setAll_length,List.getElem?_drop]
  rw [show gs.length+(G.g.length+(j - gs.length) - G.g.length)=j by omega]
  exact h2
 have hGoes:Goes w G w' Gn:=by
  refine⟨hE.goes.pr,hE.goes.cells,fun r b h=>?_,fun q x h hq=>?_⟩
  ·show (G.i++G'.i.drop bs.length)[r]? = some b
   rw [List.getElem?_append_left (List.getElem?_eq_some_iff.1 h).1];exact h
  ·by_cases hm:q∈gs
   ·obtain⟨j,hj,rfl⟩:=List.getElem_of_mem hm
    obtain⟨y,h1,h2,h3⟩:=hrow1 j _ x h (List.getElem?_eq_getElem hj) hq
    exact⟨y.1,y.2,hgn_in j _ y (List.getElem?_eq_getElem hj) (List.getElem?_eq_some_iff.1 hq).1 h1,h2,h3⟩
   ·exact⟨x,h,hgn_out q _ hm hq,Nat.le_refl _,fun _=>rfl⟩
 have ev:=hr.evol
 have hfooti:∀b,b∈is→b∈G.i:=fun b hb=>by
  obtain⟨q,hq,rfl⟩:=List.getElem_of_mem hb
  obtain⟨b',h1,h2⟩:=hig q _ (List.getElem?_eq_getElem (by omega))
  rw [List.getElem?_eq_getElem hq] at h1;cases h1
  exact List.mem_of_getElem? h2
 have hselrow:∀b,(G.sel is gg).rows b→∃(j j':Nat) (x:TGrow) (h:Value),gs[j]? = some j'∧G.g[j']? = some (x,h)∧h.ownBlock=some b:=by
  rintro b ⟨x,h,hm,hbk⟩
  obtain⟨j,hj,he⟩:=List.getElem_of_mem hm
  have hj2:j<gg.length:=by simpa [Ghost.sel] using hj
  obtain⟨y,h1,h2⟩:=hggg j _ (List.getElem?_eq_getElem (by omega))
  rw [List.getElem?_eq_getElem hj2] at h1
  have h1:=Option.some.inj h1
  have he2:gg[j].2=h:=by
   have:=congrArg Prod.snd he
   simpa [Ghost.sel] using this
  refine⟨j,_,y.1,y.2,List.getElem?_eq_getElem (by omega),h2,?_⟩
  rw [←h1,he2];exact hbk
 have hrowbox:∀(j:Nat) x h b,G.g[j]? = some (x,h)→h.ownBlock=some b→b<w.heap.size∧b∉G.i:=fun j x h b hj hb=>by
  obtain⟨n,xs,-,-,q⟩:=hr.boxes.grow j x h hj
  exact⟨(q b hb).1,(q b hb).2.1⟩
 have hsame:∀(q b:Nat),G.i[q]? = some b→q∉bs→w'.heap[b]? = w.heap[b]?:=by
  intro q b hq hnb
  refine hE.old b (hr.boxes.lt b (List.mem_of_getElem? hq)) (fun hf=>?_)
  rcases hf with hf | hf
  ·obtain⟨r,hrl,he⟩:=List.getElem_of_mem hf
   have hrl':r<bs.length:=by
    have:r<is.length:=hrl
    omega
   obtain⟨b',h1,h2⟩:=hig r _ (List.getElem?_eq_getElem hrl')
   have h1':is[r]? = some b:=by rw [←he];exact List.getElem?_eq_getElem hrl
   rw [h1'] at h1;cases h1
   have e1:=List.getElem?_eq_some_iff.1 hq
   have e2:=List.getElem?_eq_some_iff.1 h2
   have:q=bs[r]:=(List.getElem_inj hr.boxes.nodup).1 (e1.2.trans e2.2.symm)
   exact hnb (by rw [this];exact List.getElem_mem hrl')
  ·obtain⟨j,j',x,h,-,h2,h3⟩:=hselrow b hf
   exact (hrowbox j' x h b h2 h3).2 (List.mem_of_getElem? hq)
 have hnewi:∀(q b:Nat),Gn.i[q]? = some b→G.i[q]? = some b∨(G.i.length≤q∧G'.i[bs.length+(q - G.i.length)]? = some b∧w.heap.size≤b):=by
  intro q b hq
  have hq:(G.i++G'.i.drop bs.length)[q]? = some b:=hq
  by_cases hql:q<G.i.length
  ·rw [List.getElem?_append_left hql] at hq;exact .inl hq
  ·rw [List.getElem?_append_right (by omega),List.getElem?_drop] at hq
   exact .inr ⟨by omega,hq,hE.newB _ b (by show is.length≤_;omega) hq⟩
 have hmemn:∀b,b∈Gn.i→b∈G.i∨(b∈G'.i∧w.heap.size≤b):=fun b hb=>by
  obtain⟨q,hq,he⟩:=List.getElem_of_mem hb
  rcases hnewi q b (by rw [←he];exact List.getElem?_eq_getElem hq) with h | ⟨-,h1,h2⟩
  ·exact .inl (List.mem_of_getElem? h)
  ·exact .inr ⟨List.mem_of_getElem? h1,h2⟩
 have hblk:∀(j:Nat) x h b,G'.g[j]? = some (x,h)→h.ownBlock=some b→w.heap.size≤b∨∃(j':Nat) (x0:TGrow) (h0:Value),gs[j]? = some j'∧G.g[j']? = some (x0,h0)∧h0.ownBlock=some b:=by
  intro j x h b hj hbk
  rcases hE.newG j x h b hj hbk with q | ⟨x0,h0,q1,q2⟩
  ·exact .inl q
  ·have hjg:j<gg.length:=by
    have:=(List.getElem?_eq_some_iff.1 q1).1
    simpa [Ghost.sel] using this
   obtain⟨y,h1,h2⟩:=hggg j _ (List.getElem?_eq_getElem (by omega))
   rw [List.getElem?_eq_getElem hjg] at h1
   have h1:=Option.some.inj h1
   have:h0=gg[j].2:=by
    simp [Ghost.sel,hjg] at q1
    exact q1.2.symm
   refine .inr ⟨_,y.1,y.2,List.getElem?_eq_getElem (by omega),h2,?_⟩
   rw [←h1,←this];exact q2
 have hLink:Link2 w' G' (o.n1 g0) Gn (o.n2 bs gs st):=by
  refine⟨⟨fun _ _ h=>h,fun r r' b h1 h2=>?_,fun j j' vv x h h1 h2 h3=>?_⟩,?_,?_,?_⟩
  ·obtain⟨rfl,hlt⟩:=range_get h1
   by_cases hrb:r'<bs.length
   ·refine⟨bs[r'],by simp [Outs.n2,List.getElem?_append_left hrb,hrb],?_⟩
    obtain⟨b',q1,q2⟩:=hig r' _ (List.getElem?_eq_getElem hrb)
    have:=hG'is r' b' q1
    rw [h2] at this;cases this
    show (G.i++G'.i.drop bs.length)[bs[r']]? = some b
    rw [List.getElem?_append_left (List.getElem?_eq_some_iff.1 q2).1];exact q2
   ·refine⟨st.H.length+(r' - bs.length),?_,?_⟩
    ·simp only [Outs.n2]
     rw [List.getElem?_append_right (by omega)]
     rw [List.getElem?_range' (by omega)]
     simp
    ·show (G.i++G'.i.drop bs.length)[st.H.length+(r' - bs.length)]? = some b
     rw [←hlen,List.getElem?_append_right (by omega),List.getElem?_drop,show bs.length+(G.i.length+(r' - bs.length) - G.i.length)=r' by omega]
     exact h2
  ·obtain⟨rfl,hlt⟩:=range_get h1
   have hjn:j'<ngg.length:=by omega
   obtain⟨ro,x',q1,q2,q3,q4⟩:=hent j' _ (List.getElem?_eq_getElem hjn)
   rw [h3] at q2
   have q2:=Option.some.inj q2
   simp only [Prod.mk.injEq] at q2
   have hxv:x.ver=vv:=by
    have h2:(nc.map (·.ver))[j']? = some vv:=h2
    rw [←hG'g,List.map_map,List.getElem?_map,h3] at h2
    simpa using h2
   refine⟨hxv,?_⟩
   have hv2:((newRows o.rows ((pick st.g gs).getD [])).map (·.ver))[j']? = some ngg[j'].1.ver:=by
    rw [hpg,show newRows o.rows (gg.map (·.1))=ng from rfl,←hngg1]
    simp [hjn]
   by_cases hjg:j'<gs.length
   ·obtain⟨y,r1,r2⟩:=hggg j' _ (List.getElem?_eq_getElem hjg)
    refine⟨gs[j'],ngg[j'].1.ver,ngg[j'].1,by simp [Outs.n2,List.getElem?_append_left hjg,hjg],hv2,?_,rfl⟩
    rw [hgn_in j' _ _ (List.getElem?_eq_getElem hjg) (List.getElem?_eq_some_iff.1 r2).1 (List.getElem?_eq_getElem hjn),q2.2]
   ·refine⟨st.g.length+(j' - gs.length),ngg[j'].1.ver,ngg[j'].1,?_,hv2,?_,rfl⟩
    ·simp only [Outs.n2]
     rw [List.getElem?_append_right (by omega),List.getElem?_range' (by omega)]
     simp
    ·rw [←hgl0,hgn_new j' _ (by omega) (List.getElem?_eq_getElem hjn),q2.2]
  ·simp [Outs.n1,Outs.n2];omega
  ·simp [Outs.n1,Outs.n2];omega
  ·simp [Outs.n1,Outs.n2,newRows_length]
 have hval:VT E w' Gn (o.val bs gs st ls) v:=PT.move hLink o.res ls hv
 have hrest:(o.res.put (o.n2 bs gs st) ls).2=(o.res.put (o.n1 g0) ls).2:=PT.put_rest _ _ _ _
 have hhcl:(o.hc bs gs st ls).length=o.boxes.length:=boxesPut_length _ _ _ _
 have hboxm:∀(r b:Nat) t y,o.boxes[r]? = some (some t)→G'.i[r]? = some b→(o.hc bs gs st ls)[r]? = some y→BoxOk E w' Gn b y:=by
  intro r b t y h1 h2 h3
  have hrl:r<o.boxes.length:=(List.getElem?_eq_some_iff.1 h1).1
  have hx:r<(boxesPut (o.n1 g0) o.boxes H0 (o.res.put (o.n1 g0) ls).2).length:=by rw [boxesPut_length];exact hrl
  have hbx:=hB.box r b _ h2 (List.getElem?_eq_getElem hx)
  unfold Outs.hc at h3
  rw [hrest] at h3
  exact boxesPut_move hLink o.boxes H0 [] _ r h1 (List.getElem?_eq_getElem hx) h3 hbx
 refine⟨Gn,⟨⟨hE.os.trans ev.os,hE.tape.trans ev.tape,hE.output.trans ev.output,Nat.le_trans ev.size hE.size,fun b hb hnf=>?_,ev.goes.trans hGoes,fun b oo hb hp=>?_,fun q b h1 h2=>?_,fun q x h b hq hbk=>?_⟩,hr.size,fun j d hj=>(hr.tmps j d hj).mono hGoes,hr.defers.mono hGoes,?_,fun r b hb hd=>?_,hr.pins,?_⟩,hval⟩
 ·refine (hE.old b (Nat.lt_of_lt_of_le hb ev.size) (fun hf=>?_)).trans (ev.old b hb hnf)
  rcases hf with hf | hf
  ·have hbi:=hfooti b hf
   obtain⟨q,hq,he⟩:=List.getElem_of_mem hbi
   have hqb:G.i[q]? = some b:=by rw [←he];exact List.getElem?_eq_getElem hq
   by_cases hql:q<G0.i.length
   ·have e1:=ev.goes.i q _ (List.getElem?_eq_getElem hql)
    rw [hqb] at e1
    exact hnf (.inl (by rw [Option.some.inj e1];exact List.getElem_mem hql))
   ·have:=ev.newB q b (by omega) hqb;omega
  ·obtain⟨j,j',x,h,-,h2,h3⟩:=hselrow b hf
   rcases ev.newG j' x h b h2 h3 with q | ⟨x0,h0,q1,q2⟩
   ·omega
   ·exact hnf (.inr ⟨x0,h0,List.mem_of_getElem? q1,q2⟩)
 ·rcases hE.prold b oo (Nat.lt_of_lt_of_le hb ev.size) hp with q | q
  ·exact ev.prold b oo hb q
  ·obtain⟨j,j',x,h,-,h2,h3⟩:=hselrow b q
   rcases ev.newG j' x h b h2 h3 with q | ⟨x0,h0,q1,q2⟩
   ·omega
   ·exact .inr ⟨x0,h0,List.mem_of_getElem? q1,q2⟩
 ·rcases hnewi q b h2 with h | ⟨-,-,h⟩
  ·exact ev.newB q b h1 h
  ·exact Nat.le_trans ev.size h
 ·rcases hgn q (x,h) hq with⟨-,h1⟩ | ⟨j,h1,h2⟩
  ·exact ev.newG q x h b h1 hbk
  ·obtain⟨ro,x',q1,q2,-,-⟩:=hent j _ h1
   rcases hblk j x' h b q2 hbk with q | ⟨j',x0,h0,q3,q4,q5⟩
   ·exact .inl (Nat.le_trans ev.size q)
   ·rcases h2 with⟨h2,-⟩ | ⟨h2,-⟩
    ·rw [h2] at q3;cases q3
     exact ev.newG q x0 h0 b q4 q5
    ·have:=(List.getElem?_eq_some_iff.1 q3).1;omega
 ·refine⟨?_,?_,fun q b y hq hy=>?_,fun b hb=>?_,?_,fun b oo hp=>?_,fun q x h hq=>?_,fun q q' x h x' h' b hq hq' hb1 hb2=>?_,glob_mono hGoes hr.boxes.glob⟩
  ·show (G.i++G'.i.drop bs.length).length=(setAll (pairsB o.boxes bs (o.hc bs gs st ls)) st.H++(o.hc bs gs st ls).drop bs.length).length
   simp only [List.length_append,List.length_drop,setAll_length,hhcl,hG'i,hlen]
  ·show (setAll (gs.zip ngg) G.g++ngg.drop gs.length).map (·.1)=setAll (gs.zip (newRows o.rows ((pick st.g gs).getD []))) st.g++(newRows o.rows ((pick st.g gs).getD [])).drop gs.length
   rw [hpg,List.map_append,List.map_drop,hngg1]
   congr 1
   have key:∀(l:List Nat) (m:List (TGrow × Value)) (g:List (TGrow × Value)),(setAll (l.zip m) g).map (·.1)=setAll (l.zip (m.map (·.1))) (g.map (·.1)):=by
    intro l
    induction l with
    | nil=>intro m g;rfl
    | cons i l ih =>
     intro m g
     cases m with
     | nil=>rfl
     | cons y m =>
      simp only [List.zip_cons_cons,List.map_cons,setAll]
      rw [ih,List.map_set]
   rw [key,hngg1,hgs]
  ·have hy:(setAll (pairsB o.boxes bs (o.hc bs gs st ls)) st.H++(o.hc bs gs st ls).drop bs.length)[q]? = some y:=hy
   rcases hnewi q b hq with h | ⟨h1,h2,h3⟩
   ·have hql:q<st.H.length:=by rw [←hlen];exact (List.getElem?_eq_some_iff.1 h).1
    rw [List.getElem?_append_left (by rw [setAll_length];exact hql)] at hy
    by_cases hm:q∈bs
    ·obtain⟨r,hrl,rfl⟩:=List.getElem_of_mem hm
     obtain⟨b',q1,q2⟩:=hig r _ (List.getElem?_eq_getElem hrl)
     rw [h] at q2;cases q2
     cases hbr:o.boxes[r]? with
     | none=>rw [List.getElem?_eq_none_iff] at hbr;omega
     | some ob =>
      cases ob with
      | some t =>
       have hrc:r<(o.hc bs gs st ls).length:=by omega
       rw [setAll_in _ _ _ _ (pairsB_nodup hn1) (mem_pairsB r hbr (List.getElem?_eq_getElem hrl) (List.getElem?_eq_getElem hrc)) hql] at hy
       cases hy
       exact hboxm r b t _ hbr (hG'is r b q1) (List.getElem?_eq_getElem hrc)
      | none =>
       rw [setAll_out _ _ _ (fun hmm=>by
        obtain⟨p,hp,he⟩:=List.mem_map.1 hmm
        obtain⟨i,x⟩:=p
        obtain⟨r',t',e1,e2,-⟩:=pairsB_mem hp
        have e2':=List.getElem?_eq_some_iff.1 e2
        have:r'=r:=(List.getElem_inj hn1).1 (e2'.2.trans he)
        subst this
        rw [hbr] at e1;cases e1)] at hy
       refine (hr.boxes.box _ b y h hy).mono hGoes (hfix r b q1 (fun hc=>?_))
       rw [←Nat.zero_add r] at hc
       obtain⟨t,ht⟩:=chg_mem hc
       rw [hbr] at ht;cases ht
    ·rw [setAll_out _ _ _ (fun hmm=>by
      obtain⟨p,hp,he⟩:=List.mem_map.1 hmm
      obtain⟨i,x⟩:=p
      obtain⟨r',t',-,e2,-⟩:=pairsB_mem hp
      exact hm (by rw [←show i=q from he];exact List.mem_of_getElem? e2))] at hy
     exact (hr.boxes.box q b y h hy).mono hGoes (hsame q b h hm)
   ·rw [List.getElem?_append_right (by rw [setAll_length,←hlen];omega),setAll_length,List.getElem?_drop,←hlen] at hy
    have hrl:bs.length+(q - G.i.length)<o.boxes.length:=by rw [←hG'i];exact (List.getElem?_eq_some_iff.1 h2).1
    obtain⟨t,ht⟩:=hsome _ (Nat.le_add_right _ _) hrl
    exact hboxm _ b t y ht h2 hy
  ·rcases hmemn b hb with h | ⟨h,-⟩
   ·exact Nat.lt_of_lt_of_le (hr.boxes.lt b h) hE.size
   ·exact hB.lt b h
  ·show (G.i++G'.i.drop bs.length).Nodup
   refine List.nodup_append.2 ⟨hr.boxes.nodup,(List.drop_sublist _ _).nodup hB.nodup,fun x hx y hy e=>?_⟩
   subst e
   obtain⟨q,hq,he⟩:=List.getElem_of_mem hy
   have h1:(G'.i.drop bs.length)[q]? = some x:=by rw [←he];exact List.getElem?_eq_getElem hq
   rw [List.getElem?_drop] at h1
   have:=hE.newB _ x (by show is.length≤_;omega) h1
   have:=hr.boxes.lt x hx
   omega
  ·refine⟨(hB.prok b oo hp).1,fun hm=>?_⟩
   rcases hmemn b hm with h | ⟨h,-⟩
   ·rcases hE.prold b oo (hr.boxes.lt b h) hp with q | q
    ·exact (hr.boxes.prok b oo q).2 h
    ·obtain⟨j,j',x,hh,-,h2,h3⟩:=hselrow b q
     exact (hrowbox j' x hh b h2 h3).2 h
   ·exact (hB.prok b oo hp).2 h
  ·rcases hgn q (x,h) hq with⟨h0,h1⟩ | ⟨j,h1,h2⟩
   ·obtain⟨n,xs,g1,g2,g3⟩:=hr.boxes.grow q x h h1
    have hun:∀b,h.ownBlock=some b→w'.heap[b]? = w.heap[b]?:=fun b hbk=>by
     refine hE.old b (g3 b hbk).1 (fun hf=>?_)
     rcases hf with hf | hf
     ·exact (g3 b hbk).2.1 (hfooti b hf)
     ·obtain⟨j,j',x',h',e1,e2,e3⟩:=hselrow b hf
      have:=hr.boxes.apart q j' x h x' h' b h1 e2 hbk e3
      exact h0 (by rw [this];exact List.mem_of_getElem? e1)
    refine⟨n,xs,⟨g1.1,?_⟩,g2,fun b hbk=>?_⟩
    ·rcases g1.2 with q2 | ⟨gb,cap,cur,q2,q3,q4,q5⟩
     ·exact .inl q2
     ·exact .inr ⟨gb,cap,cur,q2,q3,by rw [hun gb (by rw [q2];rfl)];exact q4,q5⟩
    ·obtain⟨k1,k2,k3⟩:=g3 b hbk
     refine⟨Nat.lt_of_lt_of_le k1 hE.size,fun hm=>?_,fun oo ho hp=>?_⟩
     ·rcases hmemn b hm with h' | ⟨-,h'⟩
      ·exact k2 h'
      ·omega
     ·rcases hE.prold b oo k1 hp with q' | q'
      ·exact k3 oo ho q'
      ·obtain⟨j,j',x',h',e1,e2,e3⟩:=hselrow b q'
       have:=hr.boxes.apart q j' x h x' h' b h1 e2 hbk e3
       exact h0 (by rw [this];exact List.mem_of_getElem? e1)
   ·obtain⟨ro,x',q1,q2,q3,q4⟩:=hent j _ h1
    obtain⟨n,xs,g1,g2,g3⟩:=hB.grow j x' h q2
    have hek:x.e=x'.e∧x.k=x'.k:=by
     have q4:x=rowAt ro (gg.map (·.1))[j]?:=q4
     rw [q3,q4]
     by_cases hjg:j<gg.length
     ·have e1:g0[j]? = some { gg[j].1 with ver:=0 }:=by simp [g0,Ghost.sel,hjg]
      have e2:(gg.map (·.1))[j]? = some gg[j].1:=by simp [hjg]
      rw [e1,e2]
      cases ro<;>simp [rowAt]
     ·have e1:g0[j]? = none:=List.getElem?_eq_none (by omega)
      have e2:(gg.map (·.1))[j]? = none:=List.getElem?_eq_none (by simp;omega)
      rw [e1,e2]
      exact⟨rfl,rfl⟩
    refine⟨n,xs,by rw [hek.1,hek.2];exact g1,fun a m h=>by rw [hek.1];exact g2 a m h,fun b hbk=>?_⟩
    obtain⟨k1,k2,k3⟩:=g3 b hbk
    refine⟨k1,fun hm=>?_,by rw [hek.2];exact k3⟩
    rcases hmemn b hm with h' | ⟨h',-⟩
    ·rcases hblk j x' h b q2 hbk with q' | ⟨j',x0,h0,q5,q6,q7⟩
     ·have:=hr.boxes.lt b h';omega
     ·exact (hrowbox j' x0 h0 b q6 q7).2 h'
    ·exact k2 h'
  ·rcases hgn q (x,h) hq with⟨n0,h1⟩ | ⟨j,h1,h2⟩<;>rcases hgn q' (x',h') hq' with⟨n0',h1'⟩ | ⟨j',h1',h2'⟩
   ·exact hr.boxes.apart q q' x h x' h' b h1 h1' hb1 hb2
   ·exfalso
    obtain⟨ro,y,e1,e2,-,-⟩:=hent j' _ h1'
    rcases hblk j' y h' b e2 hb2 with q5 | ⟨j2,x0,h0,q5,q6,q7⟩
    ·have:=(hrowbox q x h b h1 hb1).1;omega
    ·have:=hr.boxes.apart q j2 x h x0 h0 b h1 q6 hb1 q7
     exact n0 (by rw [this];exact List.mem_of_getElem? q5)
   ·exfalso
    obtain⟨ro,y,e1,e2,-,-⟩:=hent j _ h1
    rcases hblk j y h b e2 hb1 with q5 | ⟨j2,x0,h0,q5,q6,q7⟩
    ·have:=(hrowbox q' x' h' b h1' hb2).1;omega
    ·have:=hr.boxes.apart q' j2 x' h' x0 h0 b h1' q6 hb2 q7
     exact n0' (by rw [this];exact List.mem_of_getElem? q5)
   ·obtain⟨ro,y,e1,e2,-,-⟩:=hent j _ h1
    obtain⟨ro',y',e1',e2',-,-⟩:=hent j' _ h1'
    have:=hB.apart j j' y h y' h' b e2 e2' hb1 hb2
    subst this
    rcases h2 with⟨h2,-⟩ | ⟨h2,h3⟩<;>rcases h2' with⟨h2',-⟩ | ⟨h2',h3'⟩
    ·rw [h2] at h2';exact Option.some.inj h2'
    ·have:=(List.getElem?_eq_some_iff.1 h2).1;omega
    ·have:=(List.getElem?_eq_some_iff.1 h2').1;omega
    ·omega
 ·have hd:r∉(pairsB o.boxes bs (o.hc bs gs st ls)).map (·.1)++st.d:=hd
  rw [List.mem_append,not_or] at hd
  have hgi:=ev.goes.i r b hb
  refine Eq.trans ?_ (hr.fix r b hb hd.2)
  by_cases hm:r∈bs
  ·obtain⟨q,hql,rfl⟩:=List.getElem_of_mem hm
   obtain⟨b',q1,q2⟩:=hig q _ (List.getElem?_eq_getElem hql)
   rw [hgi] at q2;cases q2
   refine hfix q b q1 (fun hc=>hd.1 ?_)
   rw [←Nat.zero_add q] at hc
   obtain⟨t,ht⟩:=chg_mem hc
   have hrc:q<(o.hc bs gs st ls).length:=by omega
   exact List.mem_map.2 ⟨_,mem_pairsB q ht (List.getElem?_eq_getElem hql) (List.getElem?_eq_getElem hrc),rfl⟩
  ·exact hsame r b hgi hm
 ·intro i c0 hm
  have hm:(i,c0)∈softPut (fun q=>(o.n2 bs gs st).g[q]?) o.soft (boxesRest o.boxes (o.res.put (o.n2 bs gs st) ls).2)++cDrops gs st.c:=hm
  rcases List.mem_append.1 hm with hm | hm
  ·rw [hrest] at hm
   obtain⟨q,e1,e2⟩:=softPut_some hm
   obtain⟨x',hd,h1,h2⟩:=hS q c0 e2
   have hql:q<o.rows.length:=by rw [←hG'gl];exact (List.getElem?_eq_some_iff.1 h1).1
   have hqn:q<ngg.length:=by omega
   obtain⟨ro,x1,q1,q2,q3,q4⟩:=hent q _ (List.getElem?_eq_getElem hqn)
   rw [h1] at q2
   have q2:=Option.some.inj q2
   simp only [Prod.mk.injEq] at q2
   obtain⟨q2a,q2b⟩:=q2
   have hek:ngg[q].1.e=x'.e∧ngg[q].1.k=x'.k:=by
    rw [q2a,q3,q4]
    by_cases hjg:q<gg.length
    ·have e1:g0[q]? = some { gg[q].1 with ver:=0 }:=by simp [g0,Ghost.sel,hjg]
     have e2:(gg.map (·.1))[q]? = some gg[q].1:=by simp [hjg]
     rw [e1,e2]
     cases ro<;>simp [rowAt]
    ·have e1:g0[q]? = none:=List.getElem?_eq_none (by omega)
     have e2:(gg.map (·.1))[q]? = none:=List.getElem?_eq_none (by simp;omega)
     rw [e1,e2]
     exact⟨rfl,rfl⟩
   refine⟨ngg[q].1,hd,?_,h2.keep hek.1 hek.2 (fun _ _ h=>h) (fun _ _ _ _ h=>h) (fun b _=>⟨rfl,fun _ h=>h⟩)⟩
   by_cases hjg:q<gs.length
   ·obtain⟨y,r1,r2⟩:=hggg q _ (List.getElem?_eq_getElem hjg)
    have:i=gs[q]:=by
     simp only [Outs.n2] at e1
     rw [List.getElem?_append_left hjg,List.getElem?_eq_getElem hjg] at e1
     exact (Option.some.inj e1).symm
    rw [this,hgn_in q _ _ (List.getElem?_eq_getElem hjg) (List.getElem?_eq_some_iff.1 r2).1 (List.getElem?_eq_getElem hqn),q2b]
   ·have:i=st.g.length+(q - gs.length):=by
     simp only [Outs.n2] at e1
     rw [List.getElem?_append_right (by omega),List.getElem?_range' (by omega)] at e1
     have:=Option.some.inj e1
     omega
    rw [this,←hgl0,hgn_new q _ (by omega) (List.getElem?_eq_getElem hqn),q2b]
  ·obtain⟨hmc,hng⟩:=cDrops_mem hm
   obtain⟨x,hd,h1,h2⟩:=hr.softs i c0 hmc
   obtain⟨n,xs,g1,g2,g3⟩:=hr.boxes.grow i x hd h1
   have hun:∀b,hd.ownBlock=some b→¬ (G.sel is gg).foot b:=fun b hbk hf=>by
    rcases hf with hf | hf
    ·exact (g3 b hbk).2.1 (hfooti b hf)
    ·obtain⟨j,j',x',h',e1,e2,e3⟩:=hselrow b hf
     have:=hr.boxes.apart i j' x hd x' h' b h1 e2 hbk e3
     exact hng (by rw [this];exact List.mem_of_getElem? e1)
   refine⟨x,hd,?_,h2.keep rfl rfl hGoes.pr hGoes.cells (fun b hbk=>⟨hE.old b (g3 b hbk).1 (hun b hbk),fun oo hp=>?_⟩)⟩
   ·exact hgn_out i _ hng h1
   ·rcases hE.prold b oo (g3 b hbk).1 hp with q' | q'
    ·exact q'
    ·exact (hun b hbk (.inr q')).elim
end
end Go.RT
namespace Go.RT
set_option linter.unusedVariables false
variable {E : TEnv}
def hardV (c:CT) (d:TV E) (st:TS E):TV E × TS E:=match c,d with
 | .dat _,.gso j ver=>match st.g[j]?,cGet st.c j with
  | some g,some c=>cond (Nat.beq g.ver ver) (.dat (.lst c.1) c.2,{ st with c:=cDrop j st.c }) (.gso j ver,st)
  | _,_=>(.gso j ver,st)
 | .dat _,.gsb j ver k lo n=>match st.g[j]?,cGet st.c j with
  | some g,some c=>cond (Nat.beq g.ver ver&&Nat.beq k (c.1.size E)) (.dat (.lst c.1) ((c.2.drop lo).take n),{ st with c:=cDrop j st.c }) (.gsb j ver k lo n,st)
  | _,_=>(.gsb j ver k lo n,st)
 | _,d=>(d,st)
def hardL:List CT→List (TV E)→TS E→List (TV E) × TS E
 | c::cs,d::ds,st=>((hardV c d st).1::(hardL cs ds (hardV c d st).2).1,(hardL cs ds (hardV c d st).2).2)
 | _,ds,st=>(ds,st)
def hardP (p:PT) (d:TV E) (st:TS E):TV E × TS E:=match p,d with
 | .one c,d=>hardV c d st
 | .tup cs,.tuple ds=>(.tuple (hardL cs ds st).1,(hardL cs ds st).2)
 | _,d=>(d,st)
def hardPs:List PT→List (TV E)→TS E→List (TV E) × TS E
 | p::ps,d::ds,st=>((hardP p d st).1::(hardPs ps ds (hardP p d st).2).1,(hardPs ps ds (hardP p d st).2).2)
 | _,ds,st=>(ds,st)
def OnlyC (st st':TS E):Prop:=∃c',st'={ st with c:=c' }
theorem OnlyC.refl (st:TS E):OnlyC st st:=⟨st.c,rfl⟩
theorem OnlyC.trans {s1 s2 s3:TS E} (h1:OnlyC s1 s2) (h2:OnlyC s2 s3):OnlyC s1 s3:=by
 obtain⟨c1,rfl⟩:=h1
 obtain⟨c2,rfl⟩:=h2
 exact⟨c2,rfl⟩
section
variable {w0 w : World} {G0 G : Ghost} {a : Act}
theorem hardV_ok (c:CT) (d:TV E) {st:TS E} (hr:Rel E w0 G0 st a w G):OnlyC st (hardV c d st).2∧∃G',Rel E w0 G0 (hardV c d st).2 a w G'∧Goes w G w G'∧∀v,VT E w G d v→VT E w G' (hardV c d st).1 v:=by
 have triv:OnlyC st st∧∃G',Rel E w0 G0 st a w G'∧Goes w G w G'∧∀v,VT E w G d v→VT E w G' d v:=⟨OnlyC.refl st,G,hr,Goes.refl w G,fun _ h=>h⟩
 unfold hardV
 split
 ·rename_i t j ver
  split
  ·rename_i g c hg hc
   cases hb:Nat.beq g.ver ver
   ·exact triv
   ·obtain rfl:=Nat.eq_of_beq_eq_true hb
    obtain⟨G',hR,hgo,h1,-⟩:=hr.harden hg hc
    exact⟨⟨_,rfl⟩,G',hR,hgo,h1⟩
  ·exact triv
 ·rename_i t j ver k lo n
  split
  ·rename_i g c hg hc
   cases hb:(Nat.beq g.ver ver&&Nat.beq k (c.1.size E))
   ·exact triv
   ·rw [Bool.and_eq_true] at hb
    obtain rfl:=Nat.eq_of_beq_eq_true hb.1
    obtain rfl:=Nat.eq_of_beq_eq_true hb.2
    obtain⟨G',hR,hgo,-,h1⟩:=hr.harden hg hc
    exact⟨⟨_,rfl⟩,G',hR,hgo,fun v hv=>h1 v lo n hv⟩
  ·exact triv
 ·exact triv
theorem hardL_ok:∀(cs:List CT) (ds:List (TV E)) {st:TS E} {G:Ghost},Rel E w0 G0 st a w G→OnlyC st (hardL cs ds st).2∧∃G',Rel E w0 G0 (hardL cs ds st).2 a w G'∧Goes w G w G'∧∀vs,VTs E w G ds vs→VTs E w G' (hardL cs ds st).1 vs
 | [],ds,st,G,hr=>by
  simp only [hardL]
  exact⟨OnlyC.refl st,G,hr,Goes.refl w G,fun _ h=>h⟩
 | c::cs,[],st,G,hr=>by
  simp only [hardL]
  exact⟨OnlyC.refl st,G,hr,Goes.refl w G,fun _ h=>h⟩
 | c::cs,d::ds,st,G,hr=>by
  obtain⟨o1,G1,hr1,g1,v1⟩:=hardV_ok c d hr
  obtain⟨o2,G2,hr2,g2,v2⟩:=hardL_ok cs ds hr1
  simp only [hardL]
  refine⟨o1.trans o2,G2,hr2,g1.trans g2,fun vs hv=>?_⟩
  obtain⟨u,us,rfl,h1,h2⟩:=hv.cons_inv
  exact .cons ((v1 u h1).mono g2) (v2 us (h2.mono g1))
theorem hardP_ok (p:PT) (d:TV E) {st:TS E} (hr:Rel E w0 G0 st a w G):OnlyC st (hardP p d st).2∧∃G',Rel E w0 G0 (hardP p d st).2 a w G'∧Goes w G w G'∧∀v,VT E w G d v→VT E w G' (hardP p d st).1 v:=by
 unfold hardP
 split
 ·exact hardV_ok _ _ hr
 ·rename_i cs ds
  obtain⟨o2,G2,hr2,g2,v2⟩:=hardL_ok cs ds hr
  refine⟨o2,G2,hr2,g2,fun v hv=>?_⟩
  simp only [VT] at hv ⊢
  obtain⟨vs,e,hv⟩:=hv
  exact⟨vs,e,v2 _ hv⟩
 ·exact⟨OnlyC.refl st,G,hr,Goes.refl w G,fun _ h=>h⟩
theorem hardPs_ok:∀(ps:List PT) (ds:List (TV E)) {st:TS E} {G:Ghost},Rel E w0 G0 st a w G→OnlyC st (hardPs ps ds st).2∧∃G',Rel E w0 G0 (hardPs ps ds st).2 a w G'∧Goes w G w G'∧∀vs,VTs E w G ds vs→VTs E w G' (hardPs ps ds st).1 vs
 | [],ds,st,G,hr=>by
  simp only [hardPs]
  exact⟨OnlyC.refl st,G,hr,Goes.refl w G,fun _ h=>h⟩
 | c::cs,[],st,G,hr=>by
  simp only [hardPs]
  exact⟨OnlyC.refl st,G,hr,Goes.refl w G,fun _ h=>h⟩
 | c::cs,d::ds,st,G,hr=>by
  obtain⟨o1,G1,hr1,g1,v1⟩:=hardP_ok c d hr
  obtain⟨o2,G2,hr2,g2,v2⟩:=hardPs_ok cs ds hr1
  simp only [hardPs]
  refine⟨o1.trans o2,G2,hr2,g1.trans g2,fun vs hv=>?_⟩
  obtain⟨u,us,rfl,h1,h2⟩:=hv.cons_inv
  exact .cons ((v1 u h1).mono g2) (v2 us (h2.mono g1))
theorem Rel.adoptS {st:TS E} (h:Rel E w0 G0 st a w G) {i:Nat} (hi:st.t[i]? = some (.val (.slice none 0 0))) (e:TypeId) (T:Ty) (hT:0<T.size E) :
  ∃G',Rel E w0 G0 { st with t:=st.t.set i (.gso st.g.length 0),g:=st.g++[⟨0,e,T.size E⟩],c:=(st.g.length,⟨T,[]⟩)::st.c } a w G':=by
 have hN:=h.nilRow e (T.size E)
 have hl:=h.rows_len
 have hgj:(G.g++[((⟨0,e,T.size E⟩:TGrow),Value.slice none 0 0)])[st.g.length]? = some (⟨0,e,T.size E⟩,.slice none 0 0):=by rw [←hl];simp
 have hC:=hN.addC (j:=st.g.length) (c:=⟨T,[]⟩) ⟨_,_,hgj,rfl,hT,⟨[],⟨by simp,.inl ⟨rfl,rfl⟩⟩,Flat.nil⟩,fun b hb=>by cases hb⟩
 refine⟨_,hC.evol,by simpa using hC.size,fun j d hj=>?_,hC.defers,hC.boxes,hC.fix,hC.pins,hC.softs⟩
 simp only [List.getElem?_set] at hj
 by_cases hij:i=j
 ·subst hij
  have hlt:i<st.t.length:=(List.getElem?_eq_some_iff.1 hi).1
  simp [hlt] at hj
  subst hj
  have hv:=h.tmps i _ hi
  simp only [VT] at hv
  rw [hv]
  simp only [VT]
  exact⟨_,_,hgj,Nat.le_refl _,rfl,fun _=>rfl⟩
 ·rw [if_neg hij] at hj
  exact hN.tmps j d hj
theorem Rel.adoptCellS {st:TS E} (h:Rel E w0 G0 st a w G) {r c:Nat} {t:TypeId} {cs:List (TV E)} (hr:st.H[r]? = some (.cells t cs)) (hc:cs[c]? = some (.val (.slice none 0 0))) (e:TypeId) (T:Ty) (hT:0<T.size E) :
  ∃G',Rel E w0 G0 { st with H:=st.H.set r (.cells t (cs.set c (.gso st.g.length 0))),g:=st.g++[⟨0,e,T.size E⟩],d:=r::st.d,c:=(st.g.length,⟨T,[]⟩)::st.c } a w G':=by
 have hN:=h.nilRow e (T.size E)
 have hl:=h.rows_len
 have hgj:(G.g++[((⟨0,e,T.size E⟩:TGrow),Value.slice none 0 0)])[st.g.length]? = some (⟨0,e,T.size E⟩,.slice none 0 0):=by rw [←hl];simp
 have hC:=hN.addC (j:=st.g.length) (c:=⟨T,[]⟩) ⟨_,_,hgj,rfl,hT,⟨[],⟨by simp,.inl ⟨rfl,rfl⟩⟩,Flat.nil⟩,fun b hb=>by cases hb⟩
 have hlr:r<G.i.length:=by rw [h.boxes.len];exact (List.getElem?_eq_some_iff.1 hr).1
 have hat:G.i[r]? = some G.i[r]:=List.getElem?_eq_getElem hlr
 have hS:=hC.setBox (w':=w) (r:=r) (b:=G.i[r]) hat rfl rfl rfl rfl (fun _ _=>rfl) (x:=.cells t (cs.set c (.gso st.g.length 0))) (fun _=>?_)
 ·exact⟨_,hS⟩
 ·obtain⟨vs,h1,h2,h3⟩:=hC.boxes.box r _ _ hat hr
  refine⟨vs,h1,h2,?_⟩
  obtain⟨u,hu,hv⟩:=h3.get c hc
  simp only [VT] at hv
  subst hv
  have key:∀(G1:Ghost) (cs:List (TV E)) (vs:List Value) (c:Nat) (d:TV E),VTs E w G1 cs vs→vs[c]? = some (.slice none 0 0) →
    VT E w G1 d (.slice none 0 0)→VTs E w G1 (cs.set c d) vs:=by
   intro G1 cs
   induction cs with
   | nil=>intro vs c d h1 h2 h3;exact h1
   | cons x cs ih =>
    intro vs c d h1 h2 h3
    obtain⟨u,us,rfl,q1,q2⟩:=h1.cons_inv
    cases c with
    | zero=>simp at h2;subst h2;exact .cons h3 q2
    | succ c=>exact .cons q1 (ih us c d q2 (by simpa using h2) h3)
  refine key _ cs vs.toList c _ h3 hu ?_
  simp only [VT]
  exact⟨_,_,hgj,Nat.le_refl _,rfl,fun _=>rfl⟩
end
end Go.RT
namespace Go.RT
set_option linter.unusedVariables false
variable {E : TEnv}
structure Fr (W:List Nat) (nd:Bool) (st st':TS E):Prop where
 len:st'.t.length=st.t.length
 keep:∀i,i∉W→st'.t[i]? = st.t[i]?
 d:∃D,st'.d=D++st.d∧∀r,r<st.H.length→r∉D→st'.H[r]? = st.H[r]?
 hl:st.H.length≤st'.H.length
 df:nd=true→st'.df=st.df
theorem Fr.refl (W:List Nat) (nd:Bool) (st:TS E):Fr W nd st st:=⟨rfl,fun _ _=>rfl,⟨[],rfl,fun _ _ _=>rfl⟩,Nat.le_refl _,fun _=>rfl⟩
theorem Fr.trans {W1 W2 W:List Nat} {n1 n2 n:Bool} {s1 s2 s3:TS E} (h1:Fr W1 n1 s1 s2) (h2:Fr W2 n2 s2 s3) (hw1:∀i,i∈W1→i∈W) (hw2:∀i,i∈W2→i∈W) (hn:n=true→n1=true∧n2=true):Fr W n s1 s3:=by
 obtain⟨D1,d1,e1⟩:=h1.d
 obtain⟨D2,d2,e2⟩:=h2.d
 refine⟨h2.len.trans h1.len,fun i hi=>(h2.keep i (fun h=>hi (hw2 i h))).trans (h1.keep i (fun h=>hi (hw1 i h))),⟨D2++D1,by rw [d2,d1,List.append_assoc],fun r hr hd=>?_⟩,Nat.le_trans h1.hl h2.hl,fun h=>(h2.df (hn h).2).trans (h1.df (hn h).1)⟩
 rw [List.mem_append,not_or] at hd
 exact (e2 r (Nat.lt_of_lt_of_le hr h1.hl) hd.1).trans (e1 r hr hd.2)
theorem Fr.wide {W W':List Nat} {n n':Bool} {s s':TS E} (h:Fr W n s s') (hw:∀i,i∈W→i∈W') (hn:n'=true→n=true):Fr W' n' s s' :=
 ⟨h.len,fun i hi=>h.keep i (fun hm=>hi (hw i hm)),h.d,h.hl,fun h'=>h.df (hn h')⟩
def dstL:Option Nat→List Nat
 | some i=>[i]
 | none=>[]
theorem setT_len (l:List (TV E)) (dst:Option Nat) (d:TV E):(setT l dst d).length=l.length:=by cases dst<;>simp [setT]
theorem setT_keep (l:List (TV E)) (dst:Option Nat) (d:TV E) (i:Nat) (h:i∉dstL dst):(setT l dst d)[i]? = l[i]?:=by
 cases dst with
 | none=>rfl
 | some j =>
  simp only [dstL,List.mem_singleton] at h
  simp only [setT]
  rw [List.getElem?_set_ne (fun e=>h e.symm)]
theorem Fr.put (st:TS E) (dst:Option Nat) (d:TV E):Fr (dstL dst) true st { st with t:=setT st.t dst d } :=
 ⟨setT_len _ _ _,fun i hi=>setT_keep _ _ _ _ hi,⟨[],rfl,fun _ _ _=>rfl⟩,Nat.le_refl _,fun _=>rfl⟩
theorem Fr.memc (st:TS E) (dst:Option Nat) (d:TV E) (H:List (TBox E)) (g:List TGrow) (D:List Nat) (c:List (Nat × Cn E)) (hH:∀r,r<st.H.length→r∉D→H[r]? = st.H[r]?) (hl:st.H.length≤H.length) :
  Fr (dstL dst) true st { st with t:=setT st.t dst d,H:=H,g:=g,d:=D++st.d,c:=c } :=
 ⟨setT_len _ _ _,fun i hi=>setT_keep _ _ _ _ hi,⟨D,rfl,hH⟩,hl,fun _=>rfl⟩
theorem Fr.mem (st:TS E) (dst:Option Nat) (d:TV E) (H:List (TBox E)) (g:List TGrow) (D:List Nat) (hH:∀r,r<st.H.length→r∉D→H[r]? = st.H[r]?) (hl:st.H.length≤H.length) :
  Fr (dstL dst) true st { st with t:=setT st.t dst d,H:=H,g:=g,d:=D++st.d } :=
 ⟨setT_len _ _ _,fun i hi=>setT_keep _ _ _ _ hi,⟨D,rfl,hH⟩,hl,fun _=>rfl⟩
theorem app_same {α:Type} (l m:List α):∀r,r<l.length→r∉([]:List Nat)→(l++m)[r]? = l[r]?:=fun r hr _=>by rw [List.getElem?_append_left hr]
theorem set_same {α:Type} (l:List α) (q:Nat) (x:α):∀r,r<l.length→r∉[q]→(l.set q x)[r]? = l[r]?:=fun r _ hd=>by
 rw [List.getElem?_set_ne (fun e=>hd (by simp [e]))]
theorem memT0_fr {P:Program} {ty:TypeId→Option Ty} {st st':TS E} {dst:Option Nat} {op:Op} {c:Bool} (h:memT0 P ty st dst op=some (c,st')):Fr (dstL dst) true st st':=by
 cases op<;>simp only [memT0] at h<;>try (cases h;done)
 case alloc t=>split at h<;>cases h;exact Fr.mem st dst _ _ st.g [] (app_same _ _) (by simp)
 case box t x=>split at h<;>cases h;exact Fr.mem st dst _ _ st.g [] (app_same _ _) (by simp)
 case store t x y =>
  split at h<;>try (cases h;done)
  split at h<;>cases h
  exact Fr.mem st dst _ _ st.g [_] (set_same _ _ _) (by simp)
 case buildSlice t len parts =>
  split at h<;>try (cases h;done)
  split at h<;>try (cases h;done)
  split at h<;>try (cases h;done)
  cases hl:Nat.beq len 0<;>rw [hl] at h<;>simp only [cond_true,cond_false] at h
  ·cases h
   exact Fr.mem st dst _ st.H _ [] (fun _ _ _=>rfl) (Nat.le_refl _)
  ·generalize E.zc _=z at h
   cases z<;>simp only [cond_true,cond_false] at h<;>cases h
   ·exact Fr.mem st dst _ st.H st.g [] (fun _ _ _=>rfl) (Nat.le_refl _)
   ·exact Fr.mem st dst _ st.H _ [] (fun _ _ _=>rfl) (Nat.le_refl _)
 case call c' =>
  unfold callM at h
  split at h<;>try (cases h;done)
  ·split at h<;>try (cases h;done)
   split at h<;>try (cases h;done)
   split at h<;>try (cases h;done)
   split at h<;>try (cases h;done)
   ·split at h<;>try (cases h;done)
    split at h<;>cases h
    exact Fr.mem st dst _ st.H _ [] (fun _ _ _=>rfl) (Nat.le_refl _)
   ·cases h
    exact Fr.mem st dst _ st.H _ [] (fun _ _ _=>rfl) (Nat.le_refl _)
  ·split at h<;>try (cases h;done)
   split at h<;>cases h
   exact Fr.mem st dst _ st.H _ [] (fun _ _ _=>rfl) (Nat.le_refl _)
  ·split at h<;>try (cases h;done)
   split at h<;>cases h
   exact Fr.put _ _ _
 case convert src dt x =>
  split at h
  ·split at h<;>cases h;exact Fr.put _ _ _
  ·split at h<;>cases h;exact Fr.put _ _ _
 case makeMap t res =>
  cases res with
  | some x=>simp at h
  | none =>
   simp only at h
   split at h<;>try (cases h;done)
   split at h<;>cases h
   exact Fr.mem st dst _ _ st.g [] (app_same _ _) (by simp)
 case mapUpdate t x y z =>
  split at h<;>try (cases h;done)
  split at h<;>try (cases h;done)
  split at h<;>cases h
  exact Fr.mem st dst _ _ st.g [_] (set_same _ _ _) (by simp)
 case lookup t x y ok =>
  split at h<;>try (cases h;done)
  split at h<;>try (cases h;done)
  split at h<;>cases h
  exact Fr.put _ _ _
theorem Fr.c (st:TS E) (dst:Option Nat) (d:TV E) (g:List TGrow) (c:List (Nat × Cn E)):Fr (dstL dst) true st { st with t:=setT st.t dst d,g:=g,c:=c } :=
 Fr.memc st dst d st.H g [] c (fun _ _ _=>rfl) (Nat.le_refl _)
theorem memS_fr {P:Program} {ty:TypeId→Option Ty} {st st':TS E} {dst:Option Nat} {op:Op} {c:Bool} (h:memS P ty st dst op=some (c,st')):Fr (dstL dst) true st st':=by
 cases op<;>try (cases h;done)
 case load t x =>
  simp only [memS] at h
  split at h<;>try (cases h;done)
  split at h<;>try (cases h;done)
  split at h<;>cases h
  exact Fr.put _ _ _
 case store t x y =>
  simp only [memS] at h
  split at h<;>try (cases h;done)
  split at h<;>try (cases h;done)
  split at h<;>try (cases h;done)
  split at h<;>cases h
  exact Fr.c st dst _ st.g _
 case makeSlice t x y =>
  simp only [memS] at h
  split at h<;>try (cases h;done)
  split at h<;>try (cases h;done)
  split at h<;>cases h
  exact Fr.c st dst _ _ _
 case slice t x lo hi mx =>
  cases lo with
  | some _=>cases h
  | none =>
  cases hi with
  | none=>cases h
  | some hi =>
  cases mx with
  | some _=>cases h
  | none =>
  simp only [memS] at h
  split at h<;>try (cases h;done)
  split at h<;>try (cases h;done)
  split at h<;>cases h
  exact Fr.c st dst _ _ _
 case call cl =>
  simp only [memS] at h
  unfold callS at h
  split at h<;>try (cases h;done)
  ·split at h<;>try (cases h;done)
   split at h<;>try (cases h;done)
   split at h<;>try (cases h;done)
   split at h<;>cases h
   exact Fr.c st dst _ _ _
  ·split at h<;>try (cases h;done)
   split at h<;>try (cases h;done)
   split at h<;>try (cases h;done)
   split at h<;>cases h
   exact Fr.c st dst _ st.g _
  ·split at h<;>try (cases h;done)
   split at h<;>try (cases h;done)
   split at h<;>try (cases h;done)
   split at h<;>cases h
   exact Fr.c st dst _ st.g _
theorem memR_fr {P:Program} {ty:TypeId→Option Ty} {st st':TS E} {dst:Option Nat} {op:Op} {c:Bool} (h:memR P ty st dst op=some (c,st')):Fr (dstL dst) true st st':=by
 cases op<;>simp only [memR] at h<;>try (cases h;done)
 case alloc t =>
  split at h<;>try (cases h;done)
  split at h<;>try (cases h;done)
  split at h<;>cases h
  exact Fr.c st dst _ _ _
 case box t x =>
  split at h<;>cases h
  exact Fr.c st dst _ _ _
 case load t x =>
  split at h<;>try (cases h;done)
  split at h<;>cases h
  exact Fr.put _ _ _
 case convert src d x =>
  split at h<;>try (cases h;done)
  ·split at h<;>cases h
   exact Fr.c st dst _ st.g _
  ·split at h<;>cases h
   exact Fr.c st dst _ st.g _
theorem memU_fr {P:Program} {ty:TypeId→Option Ty} {st st':TS E} {dst:Option Nat} {op:Op} {c:Bool} (h:memU P ty st dst op=some (c,st')):Fr (dstL dst) true st st':=by
 cases op<;>simp only [memU] at h<;>try (cases h;done)
 cases hb:softB ty dst<;>rw [hb] at h<;>simp only [cond_true,cond_false] at h
 ·cases h
 split at h<;>try (cases h;done)
 split at h<;>try (cases h;done)
 split at h<;>try (cases h;done)
 cases h
 exact Fr.memc st dst _ st.H _ [] _ (fun _ _ _=>rfl) (Nat.le_refl _)
theorem memT_fr {P:Program} {ty:TypeId→Option Ty} {st st':TS E} {dst:Option Nat} {op:Op} {c:Bool} (h:memT P ty st dst op=some (c,st')):Fr (dstL dst) true st st':=by
 unfold memT at h
 split at h
 ·rename_i r hm
  cases h
  exact memU_fr hm
 split at h
 rotate_left
 ·cases op<;>simp only [memN] at h<;>try (cases h;done)
  split at h<;>try (cases h;done)
  split at h<;>cases h
  exact Fr.mem st dst _ _ st.g [_] (set_same _ _ _) (by simp)
 rename_i r hm
 cases h
 rename_i h
 revert hm
 intro h
 unfold memB at h
 split at h
 ·rename_i r hm
  cases h
  exact memR_fr hm
 ·unfold memT1 at h
  split at h
  ·rename_i r hm
   cases h
   exact memT0_fr hm
  ·exact memS_fr h
theorem Fr.ofC {W:List Nat} {n:Bool} {s s1 s':TS E} (hc:OnlyC s s1) (h:Fr W n s1 s'):Fr W n s s':=by
 obtain⟨c,rfl⟩:=hc
 exact⟨h.len,h.keep,h.d,h.hl,h.df⟩
structure Sl where
 b:List (Option Nat)
 g:List (Option Nat)
def Sl.setb (s:Sl) (r r':Nat):Sl:={ s with b:=s.b.set r (some r') }
def Sl.setg (s:Sl) (r r':Nat):Sl:={ s with g:=s.g.set r (some r') }
def unCaps (s:Sl):List (Nat × Nat)→List (TV E)→Sl
 | (r,_)::cs,.ptr r' _::ds=>unCaps (s.setb r r') cs ds
 | _::cs,_::ds=>unCaps s cs ds
 | _,_=>s
def CT.un (s:Sl):CT→TV E→Sl
 | .ptr r _,.ptr r' _=>s.setb r r'
 | .bsl r _ _,.bsl r' _ _=>s.setb r r'
 | .optr r _,.ptr r' _=>s.setb r r'
 | .optr r _,.optr _ r' _=>s.setb r r'
 | .mref r,.mref r'=>s.setb r r'
 | .yld r,.yld r'=>s.setb r r'
 | .gsl j _,.gsl j' _ _ _=>s.setg j j'
 | .gso j,.gso j' _=>s.setg j j'
 | .rptr j _,.rptr j' _ _ _ _=>s.setg j j'
 | .gsb j _,.gsb j' _ _ _ _=>s.setg j j'
 | .func _ caps,.func _ cs=>unCaps s caps cs
 | _,_=>s
def CT.unL (s:Sl):List CT→List (TV E)→Sl
 | c::cs,ds=>match c.pk? with
  | some t=>CT.unL s cs (ds.drop (t.size E))
  | none=>match ds with
   | d::ds=>CT.unL (c.un s d) cs ds
   | []=>s
 | _,_=>s
def PT.un (s:Sl):PT→TV E→Sl
 | .one c,d=>c.un s d
 | .agg cs,.agg ds=>CT.unL s cs ds
 | .tup cs,.tuple ds=>CT.unL s cs ds
 | _,_=>s
def unPts (s:Sl):List PT→List (TV E)→Sl
 | p::ps,d::ds=>unPts (p.un s d) ps ds
 | _,_=>s
def unBts (H:List (TBox E)):Nat→List BT→Sl→Sl
 | _,[],s=>s
 | r,t::ts,s=>unBts H (r+1) ts (match t,(s.b[r]?.getD none).bind (H[·]?) with
  | .cells _ cs,some (.cells _ ds)=>CT.unL s cs ds
  | .loop _ cs,some (.loop _ ds)=>CT.unL s cs ds
  | _,_=>s)
def allSome:List (Option Nat)→List Nat
 | []=>[]
 | some x::xs=>x::allSome xs
 | none::xs=>allSome xs
def Shp.sel (s:Shp) (st:TS E) (ds:List (TV E)):Sl :=
 unBts st.H 0 s.boxes (unPts ⟨s.boxes.map fun _=>none,s.rows.map fun _=>none⟩ s.args ds)
def sm {α β γ:Type} (f:α→γ) (g:β→γ):α ⊕ β→γ
 | .inl x=>f x
 | .inr y=>g y
def okK {R:Type} (o:Outs) (bs gs:List Nat) (st:TS E) (dst:Option Nat) (k:Ex E→TS E→Option R) (y:dens E o.tys):Option R :=
 k .normal { o.after bs gs st (putAll o.tys y) with t:=setT st.t dst (o.val bs gs st (putAll o.tys y)) }
def panK {R:Type} (o:Outs) (bs gs:List Nat) (st:TS E) (k:Ex E→TS E→Option R) (y:dens E o.tys):Option R :=
 k (.panic (o.val bs gs st (putAll o.tys y))) (o.after bs gs st (putAll o.tys y))
def leaveK {R:Type} (s:Shp) (bs gs:List Nat) (st:TS E) (dst:Option Nat) (k:Ex E→TS E→Option R):(p:Option Outs)→OutP E s.out p→Option R
 | none=>okK s.out bs gs st dst k
 | some q=>sm (okK s.out bs gs st dst k) (panK q bs gs st k)
def Outs.wf (o:Outs) (nb ng:Nat):Bool:=someFrom nb o.boxes&&Nat.ble ng o.rows.length
def Shp.wf (s:Shp) (nb ng:Nat):Bool:=s.out.wf nb ng&&(match s.pan with | none=>true | some q=>q.wf nb ng)
def callK {R:Type} (st:TS E) (dst:Option Nat) (f:FuncId) (ds:List (TV E)) (k:Ex E→TS E→Option R):List (Ctr E)→Option R
 | []=>none
 | C::Γ=>cond (Nat.beq C.s.f f)
   (match hardPs C.s.args ds st with
    | (ds',st')=>match C.s.enter (allSome (C.s.sel st' ds').b) (allSome (C.s.sel st' ds').g) st' ds' with
     | some ls=>match getAll C.s.tys ls with
      | some x=>rq (C.s.wf (allSome (C.s.sel st' ds').b).length (allSome (C.s.sel st' ds').g).length) ((C.m x).bind (leaveK C.s (allSome (C.s.sel st' ds').b) (allSome (C.s.sel st' ds').g) st' dst k C.s.pan))
      | none=>callK st dst f ds k Γ
     | none=>callK st dst f ds k Γ)
   (callK st dst f ds k Γ)
def OpOk (P:Program) (o:Oper) (W:List Nat) (nd:Bool) (st:TS E) (Q:Ex E→TS E→Prop):Prop :=
 ∀w0 G0 a w G,Rel E w0 G0 st a w G→o.wp P a w (fun a' w'=>∃st' G',Rel E w0 G0 st' a' w' G'∧Q .normal st'∧Fr W nd st st') (CPost E w0 G0 fun x st'=>x≠.normal∧Q x st'∧Fr W nd st st')
section
variable {P : Program} {st : TS E} {o : Oper} {Q : Ex E → TS E → Prop}
theorem OpOk.of_does {W:List Nat} {nd:Bool} {st':TS E} (h:∀w0 G0 a w G,Rel E w0 G0 st a w G→Does P w0 G0 a w o st') (hQ:Q .normal st') (hF:Fr W nd st st'):OpOk P o W nd st Q:=by
 intro w0 G0 a w G hr
 obtain⟨nx,v,w',G',hrun,hnx,hr'⟩:=h w0 G0 a w G hr
 unfold Oper.wp
 rw [hrun]
 rcases hnx with rfl | ⟨rfl,rfl⟩
 ·exact⟨st',G',hr',hQ,hF⟩
 ·exact⟨st',G',hr',hQ,hF⟩
theorem wp_invokes {a:Act} {w:World} {next:Act→World→Prop} {QQ:Exit→Act→World→Prop} {f:FuncId} {args:Array Value} {R:Ending→World→Prop} (hrun:(execOp a.eval o).run P w=(callFunc f args).run P w) (h:Invokes P f args w R)
  (h1:∀v w',R (.returned v) w'→next (a.put o.dst v) w') (h2:∀ch w',R (.panicked ch) w'→QQ (.panic ch) a w') (h3:∀w',¬ R .outgrown w'):o.wp P a w next QQ:=by
 unfold Oper.wp
 rw [hrun]
 unfold Invokes at h
 split at h
 ·rename_i f' args' w' hr
  rw [hr]
  refine Calls.mono h fun e w'' he=>?_
  cases e with
  | returned v=>exact h1 v w'' he
  | panicked ch=>exact h2 ch w'' he
  | outgrown=>exact (h3 w'' he).elim
 ·rename_i v w' hr
  rw [hr]
  exact h1 v w' h
 ·exact h.elim
theorem evs_ok {w0 w:World} {G0 G:Ghost} {a:Act} (hr:Rel E w0 G0 st a w G):∀l:List Operand,VTs E w G (l.map st.ev) (l.map a.eval)
 | []=>.nil
 | x::l=>.cons (hr.ev x) (evs_ok hr l)
theorem Outs.after_fr (ot:Outs) (bs gs:List Nat) (st:TS E) (ls:List (Lf E)) (dst:Option Nat) (d:TV E):Fr (dstL dst) true st { ot.after bs gs st ls with t:=setT st.t dst d } :=
 Fr.memc st dst d _ _ _ _ (fun r hr hd=>by
  show (setAll (pairsB ot.boxes bs (ot.hc bs gs st ls)) st.H++(ot.hc bs gs st ls).drop bs.length)[r]? = _
  rw [List.getElem?_append_left (by rw [setAll_length];exact hr),setAll_out _ _ _ hd]) (by
  show _≤(setAll (pairsB ot.boxes bs (ot.hc bs gs st ls)) st.H++(ot.hc bs gs st ls).drop bs.length).length
  simp [setAll_length])
theorem Pins.evol {w0 w:World} {G0 G:Ghost} (h:Pins E w0 G0) (hE:Evol w0 G0 w G):Pins E w G:=by
 intro b ob hb
 obtain⟨⟨cs,t,m,h1,hp⟩,h2⟩:=h b ob hb
 have hlt:b<w0.heap.size:=(Array.getElem?_eq_some_iff.1 h1).1
 refine⟨⟨cs,t,m,(hE.old b hlt h2).trans h1,hp⟩,fun hf=>h2 ?_⟩
 rcases hf with hf | ⟨x,hd,hm,hbk⟩
 ·obtain⟨q,hq,he⟩:=List.getElem_of_mem hf
  have hqb:G.i[q]? = some b:=by rw [←he];exact List.getElem?_eq_getElem hq
  by_cases hql:q<G0.i.length
  ·have e1:=hE.goes.i q _ (List.getElem?_eq_getElem hql)
   rw [hqb] at e1
   exact .inl (by rw [Option.some.inj e1];exact List.getElem_mem hql)
  ·have:=hE.newB q b (by omega) hqb;omega
 ·obtain⟨j,hj,he⟩:=List.getElem_of_mem hm
  rcases hE.newG j x hd b (by rw [←he];exact List.getElem?_eq_getElem hj) hbk with q | ⟨x0,h0,q1,q2⟩
  ·omega
  ·exact .inr ⟨x0,h0,List.mem_of_getElem? q1,q2⟩
theorem Rel.pinsAt {w0 w:World} {G0 G:Ghost} {a:Act} (h:Rel E w0 G0 st a w G):Pins E w G:=h.pins.evol h.evol
theorem pick_mem {α:Type} {l r:List α} {is:List Nat} (h:pick l is=some r) {x:α} (hx:x∈r):x∈l:=by
 obtain⟨j,hj,he⟩:=List.getElem_of_mem hx
 obtain⟨hl,hg⟩:=pick_get h
 have hj':j<is.length:=by omega
 obtain⟨y,h1,h2⟩:=hg j is[j] (List.getElem?_eq_getElem hj')
 rw [List.getElem?_eq_getElem hj,he] at h1
 cases h1
 exact List.mem_of_getElem? h2
theorem Pins.sel {w:World} {G:Ghost} {bs gs is:List Nat} {gg:List (TGrow × Value)} (h:Pins E w G) (hi:pick G.i bs=some is) (hg:pick G.g gs=some gg):Pins E w (G.sel is gg):=fun b ob hb=>by
 obtain⟨h1,h2⟩:=h b ob hb
 refine⟨h1,fun hf=>h2 ?_⟩
 rcases hf with hf | ⟨x,hd,hm,hbk⟩
 ·exact .inl (pick_mem hi hf)
 ·obtain⟨y,hy,e⟩:=List.mem_map.1 hm
  cases e
  exact .inr ⟨y.1,y.2,pick_mem hg hy,hbk⟩
theorem callK_sound (hE:E.Ok) {R:Type} {c:Call} {x:Operand} {f:FuncId} {caps:List (TV E)} (ho:o.op=.call c) (hc:c.callee=.value x) (hx:st.ev x=.func (.func f) caps) {k:Ex E→TS E→Option R} {r:R} :
  ∀ {Γ:List (Ctr E)},(∀C∈Γ,C.Ok P)→callK st o.dst f (c.args.toList.map st.ev++caps) k Γ=some r→OpOk P o (dstL o.dst) true st (fun x st'=>k x st'=some r)
 | [],_,h=>by cases h
 | C::Γ,hΓ,h=>by
  have hrest:callK st o.dst f (c.args.toList.map st.ev++caps) k Γ=some r→OpOk P o (dstL o.dst) true st (fun x st'=>k x st'=some r):=callK_sound hE ho hc hx (fun C' hC=>hΓ C' (by simp [hC]))
  simp only [callK] at h
  cases hf:Nat.beq C.s.f f<;>rw [hf] at h<;>simp only [cond_true,cond_false] at h
  ·exact hrest h
  have hf:=Nat.eq_of_beq_eq_true hf
  obtain⟨ds1,st1,hhs⟩:∃ds1 st1,hardPs C.s.args (c.args.toList.map st.ev++caps) st=(ds1,st1):=⟨_,_,rfl⟩
  rw [hhs] at h
  dsimp only at h
  split at h
  ·rename_i ls hls
   split at h
   ·rename_i xx hxx
    generalize hbs:allSome (C.s.sel st1 ds1).b=bs at *
    generalize hgs:allSome (C.s.sel st1 ds1).g=gs at *
    obtain⟨hwf,h⟩:=rq_some h
    cases hm:C.m xx with
    | none=>rw [hm] at h;cases h
    | some y =>
     rw [hm] at h
     dsimp only [Option.bind] at h
     intro w0 G0 a w G0' hr
     have hv:=hr.ev x
     rw [hx] at hv
     simp only [VT] at hv
     obtain⟨cv,hcv,hcaps⟩:=hv
     have hargs0:VTs E w G0' (c.args.toList.map st.ev++caps) (c.args.map a.eval++cv).toList:=by
      have:=(evs_ok hr c.args.toList).append hcaps
      simpa using this
     obtain⟨honly,G,hr1,hgo,hvs⟩:=hardPs_ok C.s.args (c.args.toList.map st.ev++caps) hr
     have hargs:=hvs _ hargs0
     rw [hhs] at hr1 hargs honly
     clear hr
     have hr:=hr1
     have hnd:bs.Nodup∧gs.Nodup∧bs.length=C.s.boxes.length∧C.s.rows.length=gs.length:=by
      unfold Shp.enter at hls
      split at hls<;>try (cases hls;done)
      rename_i H g hH hg
      cases hcc:(nodupN bs&&(nodupN gs&&(Nat.beq bs.length C.s.boxes.length&&rowsSame C.s.rows g)))<;>rw [hcc] at hls<;>simp only [cond_true,cond_false] at hls
      ·cases hls
      simp only [Bool.and_eq_true] at hcc
      exact⟨nodupN_ok hcc.1,nodupN_ok hcc.2.1,Nat.eq_of_beq_eq_true hcc.2.2.1,by rw [(rowsSame_ok hcc.2.2.2).1,(pick_get hg).1]⟩
     obtain⟨is,gg,hi,hgk,hB,hS,hV⟩:=hr.enter hE hls hargs
     have hput:=getAll_ok _ hxx
     have hok:=hΓ C (by simp) xx y hm w (G.sel is gg) (c.args.map a.eval++cv) (hr.pinsAt.sel hi hgk) (by rw [hput];exact hB) (by rw [hput];exact hS) (by rw [hput];exact hV)
     rw [hf] at hok
     have hrun:(execOp a.eval o).run P w=(callFunc f (c.args.map a.eval++cv)).run P w:=by
      simp only [execOp,ho,resolve,hc,hcv,Deferred.ofValue,Sem.run_bind,Sem.run_pure,Result.andThen_ok,invoke]
      simp
     have hg0:(G.sel is gg).g.map (·.1)=C.s.g0:=hB.gs
     have hwf':∀(q:Outs),q.wf bs.length gs.length=true→someFrom bs.length q.boxes=true∧gs.length≤q.rows.length:=fun q hq=>by
      unfold Outs.wf at hq
      rw [Bool.and_eq_true] at hq
      exact⟨hq.1,Nat.le_of_ble_eq_true hq.2⟩
     unfold Shp.wf at hwf
     rw [Bool.and_eq_true] at hwf
     have okcase:∀(y:dens E C.s.out.tys) (v:Value) (w':World),okK C.s.out bs gs st1 o.dst k y=some r →
       (∃v1 G',Ending.returned v=endOf (C.s.out.ares true (C.s.H (putAll C.s.tys xx)) C.s.g0 (putAll C.s.out.tys y)).ok v1∧Evol w (G.sel is gg) w' G'∧Boxes E w' G' (C.s.out.ares true (C.s.H (putAll C.s.tys xx)) C.s.g0 (putAll C.s.out.tys y)).H (C.s.out.ares true (C.s.H (putAll C.s.tys xx)) C.s.g0 (putAll C.s.out.tys y)).g∧Softs E w' G' (C.s.out.ares true (C.s.H (putAll C.s.tys xx)) C.s.g0 (putAll C.s.out.tys y)).c ∧
        VT E w' G' (C.s.out.ares true (C.s.H (putAll C.s.tys xx)) C.s.g0 (putAll C.s.out.tys y)).d v1∧∀(q b:Nat),(G.sel is gg).i[q]? = some b→q∉(C.s.out.ares true (C.s.H (putAll C.s.tys xx)) C.s.g0 (putAll C.s.out.tys y)).D→w'.heap[b]? = w.heap[b]?) →
       ∃st' G',Rel E w0 G0 st' (a.put o.dst v) w' G'∧k .normal st'=some r∧Fr (dstL o.dst) true st st':=by
      rintro y v w' hk ⟨v1,G',he,hE,hB',hS',hV',hfix⟩
      simp only [Outs.ares,endOf,cond_true,Ending.returned.injEq] at he
      subst he
      obtain⟨hs1,hs2⟩:=hwf' _ hwf.1
      simp only [Outs.ares] at hB' hS' hV' hfix
      rw [←hg0] at hB' hS' hV'
      obtain⟨Gn,hR,hval⟩:=hr.leave hi hgk hnd.1 hnd.2.1 C.s.out hs1 hs2 hE hB' hS' hV' hfix
      exact⟨_,Gn,hR.put hval o.dst,hk,(C.s.out.after_fr bs gs st1 _ o.dst _).ofC honly⟩
     have fin:∀(p:Option Outs) (hp:C.s.pan=p) (y:OutP E C.s.out p),leaveK C.s bs gs st1 o.dst k p y=some r→Invokes P f (c.args.map a.eval++cv) w (fun e w' =>
       ∃v G',e=endOf (outP C.s (C.s.H (putAll C.s.tys xx)) p y).ok v∧Evol w (G.sel is gg) w' G'∧Boxes E w' G' (outP C.s (C.s.H (putAll C.s.tys xx)) p y).H (outP C.s (C.s.H (putAll C.s.tys xx)) p y).g∧Softs E w' G' (outP C.s (C.s.H (putAll C.s.tys xx)) p y).c ∧
        VT E w' G' (outP C.s (C.s.H (putAll C.s.tys xx)) p y).d v∧∀(q b:Nat),(G.sel is gg).i[q]? = some b→q∉(outP C.s (C.s.H (putAll C.s.tys xx)) p y).D→w'.heap[b]? = w.heap[b]?) →
       o.wp P a w (fun a' w'=>∃st' G',Rel E w0 G0 st' a' w' G'∧k .normal st'=some r∧Fr (dstL o.dst) true st st') (CPost E w0 G0 fun x st'=>x≠.normal∧k x st'=some r∧Fr (dstL o.dst) true st st'):=by
      intro p hp y hk hI
      refine wp_invokes hrun hI (fun v w' hR=>?_) (fun ch w' hR=>?_) (fun w' hR=>?_)
      ·cases p with
       | none=>exact okcase y v w' hk hR
       | some q =>
        cases y with
        | inl y=>exact okcase y v w' hk hR
        | inr y =>
         obtain⟨v1,G',he,-⟩:=hR
         simp only [outP,Outs.ares,endOf,cond_false] at he
         cases he
      ·cases p with
       | none =>
        obtain⟨v1,G',he,-⟩:=hR
        simp only [outP,Outs.ares,endOf,cond_true] at he
        cases he
       | some q =>
        cases y with
        | inl y =>
         obtain⟨v1,G',he,-⟩:=hR
         simp only [outP,Outs.ares,endOf,cond_true] at he
         cases he
        | inr y =>
         obtain⟨v1,G',he,hE,hB',hS',hV',hfix⟩:=hR
         simp only [outP,Outs.ares,endOf,cond_false,Ending.panicked.injEq] at he
         subst he
         have hq:q.wf bs.length gs.length=true:=by have:=hwf.2;rw [hp] at this;exact this
         obtain⟨hs1,hs2⟩:=hwf' _ hq
         simp only [outP,Outs.ares] at hB' hS' hV' hfix
         rw [←hg0] at hB' hS' hV'
         obtain⟨Gn,hR,hval⟩:=hr.leave hi hgk hnd.1 hnd.2.1 q hs1 hs2 hE hB' hS' hV' hfix
         exact⟨.panic (q.val bs gs st1 (putAll q.tys y)),_,Gn,⟨v1,rfl,hval⟩,hR,(fun h=>nomatch h),hk,((q.after_fr bs gs st1 _ none .any).wide (fun i hi=>by cases hi) (fun h=>h)).ofC honly⟩
      ·obtain⟨v1,G',he,-⟩:=hR
       unfold endOf at he
       cases hb:(outP C.s (C.s.H (putAll C.s.tys xx)) p y).ok<;>rw [hb] at he<;>cases he
     exact fin C.s.pan rfl y h hok
   ·exact hrest h
  ·exact hrest h
end
end Go.RT
