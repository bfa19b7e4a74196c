/-
  A part of a proof: see the last text of this claim.
-/
import Derived.Test.YthmnidlbohgmiaaPE
set_option linter.unusedVariables false
set_option linter.unusedSimpArgs false
namespace Go.Sim.Kd
open Go Go.Sim
def addV (X:Int → Bool) (v:Int):Int → Bool:=fun n=>decide (n=v) || X n
def addsV (w:Bool) (X:Int → Bool):List Int → List Bool → (Int → Bool)
 | [],_=>X
 | v :: vs,cs=>addsV w (if cs.headD false=w then addV X v else X) vs cs.tail
mutual
def vN (ds:List Decl) (fs:List CFun):Node → (Int → Bool) → (Int → Bool) → Bool
 | .mk op n ty args brs,X,A=>match headOf ds fs op n ty with
   | none=>false
   | some (want,xs)=>(if op=0 then X n else if op=5 then A n else true) && vNs ds fs args want (if op=7 then addV X n else X) (if op=3 then addV A n else A) && vBs ds fs brs xs X A
def vNs (ds:List Decl) (fs:List CFun):List Node → List Int → (Int → Bool) → (Int → Bool) → Bool
 | [],[],_,_=>true
 | a :: as,w :: ws,X,A=>decide (sortOf a.op=w) && vN ds fs a X A && vNs ds fs as ws X A
 | _,_,_,_=>false
def vB (ds:List Decl) (fs:List CFun):Br → Xtor → (Int → Bool) → (Int → Bool) → Bool
 | .mk vars co body,x,X,A=>decide (vars.length=x.args.length) && decide (co=x.args.map fun a=>a.co) && distinctOk [] (vars.zip co) && decide (sortOf body.op=2) &&
   vN ds fs body (addsV false X vars co) (addsV true A vars co)
def vBs (ds:List Decl) (fs:List CFun):List Br → List Xtor → (Int → Bool) → (Int → Bool) → Bool
 | [],[],_,_=>true
 | b :: bs,x :: xs,X,A=>vB ds fs b x X A && vBs ds fs bs xs X A
 | _,_,_,_=>false
end
theorem vN_eq (ds:List Decl) (fs:List CFun) (a:Node) (X A:Int → Bool):vN ds fs a X A=match headOf ds fs a.op a.n a.ty with
 | none=>false
 | some (want,xs)=>(if a.op=0 then X a.n else if a.op=5 then A a.n else true) && vNs ds fs a.args want (if a.op=7 then addV X a.n else X) (if a.op=3 then addV A a.n else A) && vBs ds fs a.brs xs X A:=by
 cases a
 rw [vN]
 rfl
theorem vB_eq (ds:List Decl) (fs:List CFun) (b:Br) (x:Xtor) (X A:Int → Bool):vB ds fs b x X A=(decide (b.vars.length=x.args.length) && decide (b.co=x.args.map fun a=>a.co) && distinctOk [] (b.vars.zip b.co) && decide (sortOf b.body.op=2) &&
 vN ds fs b.body (addsV false X b.vars b.co) (addsV true A b.vars b.co)):=by
 cases b
 rw [vB]
 rfl
def Bn (X:Int → Int) (k:Int):Prop:=∀ n,0 ≤ X n ∧ X n ≤ k
theorem Bn.bd {X:Int → Int} {k b:Int} (h:Bn X k) (hb:k ≤ b):Bd X b:=fun n=>by have:=h n;omega
theorem Bn.le {X:Int → Int} {k b:Int} (h:Bn X k) (hb:k ≤ b):Bn X b:=fun n=>by have:=h n;omega
theorem Bn.add {X:Int → Int} {b v:Int} (h:Bn X b):Bn (addK X v 1) (b + 1):=by
 intro n
 have:=h n
 unfold addK
 split <;> omega
def pos (X:Int → Int):Int → Bool:=fun n=>decide (0 < X n)
theorem pos_add {X:Int → Int} {k v:Int} (h:Bn X k):pos (addK X v 1)=addV (pos X) v:=by
 funext n
 have:=h n
 unfold pos addV addK
 by_cases hn:n=v
 ·subst hn;simp;omega
 ·simp [hn]
theorem Bn.adds {w:Bool} {b:Int}:∀ {vars:List Int} {cos:List Bool} {X:Int → Int},Bn X b → Bn (addsK w X vars cos 1) (b + vars.length) ∧ pos (addsK w X vars cos 1)=addsV w (pos X) vars cos:=by
 intro vars
 induction vars generalizing b with
 | nil=>intro cos X h;exact ⟨h.le (by simp),rfl⟩
 | cons v vs ih =>
   intro cos X h
   simp only [addsK,addsV]
   by_cases hw:cos.headD false=w
   ·simp only [if_pos hw]
    obtain ⟨h1,h2⟩:=ih (cos:=cos.tail) (h.add (v:=v))
    exact ⟨h1.le (by simp;omega),by rw [h2,pos_add h]⟩
   ·simp only [if_neg hw]
    obtain ⟨h1,h2⟩:=ih (cos:=cos.tail) h
    exact ⟨h1.le (by simp;omega),h2⟩
theorem addK_back (X:Int → Int) (v:Int):addK (addK X v 1) v (-1)=X:=by
 funext n
 unfold addK
 by_cases h:n=v <;> simp [h] <;> omega
theorem addK_comm (X:Int → Int) (v w a b:Int):addK (addK X v a) w b=addK (addK X w b) v a:=by
 funext n
 unfold addK
 by_cases h:n=v <;> by_cases h':n=w <;> simp [h,h'] <;> (try split) <;> omega
theorem addsK_addK {w:Bool} {k a v:Int}:∀ (vars:List Int) (cos:List Bool) (X:Int → Int),addsK w (addK X v a) vars cos k=addK (addsK w X vars cos k) v a
 | [],_,_=>rfl
 | u :: vars,cos,X=>by
   simp only [addsK]
   by_cases hw:cos.headD false=w
   ·simp only [if_pos hw]
    rw [addK_comm,addsK_addK vars]
   ·simp only [if_neg hw]
    exact addsK_addK vars cos.tail X
theorem addsK_back {w:Bool}:∀ (vars:List Int) (cos:List Bool) (X:Int → Int),addsK w (addsK w X vars cos 1) vars cos (-1)=X
 | [],_,_=>rfl
 | v :: vars,cos,X=>by
   simp only [addsK]
   by_cases hw:cos.headD false=w
   ·simp only [if_pos hw]
    rw [addsK_addK vars,addsK_addK vars,addsK_addK vars,addK_back,addsK_back vars]
   ·simp only [if_neg hw]
    exact addsK_back vars cos.tail X
abbrev IXA (ix ia:Nat):Nat → Prop:=fun j=>j=ix ∨ j=ia
def ValidC (c:Core) (b:Node):Prop:=∀ (s:Sg) (o ix ia:Nat) (X A:Int → Int),SC o ix ia X A s → Bn X (2 ^ 41 - b.sz) → Bn A (2 ^ 41 - b.sz) →
 HC p N48_ [.agg (Core.cs c),.ptr o 0,.agg b.cs] s (fun r s'=>r=[B (vN c.decls c.funs b (pos X) (pos A))] ∧ SC o ix ia X A s' ∧ Chg (IXA ix ia) s s')
theorem children_l {o ix ia:Nat} (c:Core) (l:List Node) (want:List Int) (X A:Int → Int) (hlen:l.length=want.length) (hBX:∀ b ∈ l,Bn X (2 ^ 41 - b.sz)) (hBA:∀ b ∈ l,Bn A (2 ^ 41 - b.sz)) (H:∀ b ∈ l,ValidC c b) (i:Nat) (hi:i ≤ l.length) (hs:l.length ≤ 2 ^ 40) {n:Nat} {v:Nat → Bool} {D:List (Nat × List AV)} {S:Sg} {Q:Ex → Fr → Prop}
 (hS:SC o ix ia X A S) (hX:∀ j S',vNs c.decls c.funs (l.drop i) (want.drop i) (pos X) (pos A)=true → SC o ix ia X A S' → Chg (IXA ix ia) S S' → Q (.exit 0) ⟨upd (upd (upd (upd (upd (upd (upd ((fun _=>none)) 15 (some (.val (B false)))) 14 (some (.val (I j)))) 13 (some (.val (I (l.map Node.enc).length)))) 12 (some (.val (.slice .none 5 (l.map Node.enc))))) 4 (some (.loc 4 0))) 3 (some (.val (SL 1 (want.map fun x=>I (x + 1)))))) 1 (some (.val (.ptr o 0))),upd ((fun _=>none)) 4 (some (Core.cs c)),n,v,D,S'⟩)
 (hR:∀ S',vNs c.decls c.funs (l.drop i) (want.drop i) (pos X) (pos A)=false → SC o ix ia X A S' → Chg (IXA ix ia) S S' → Q .ret ⟨upd ((fun _=>none)) 8 (some (.val (B false))),(fun _=>none),n,v,D,S'⟩):EX (callL p) (.loop F103_l1) ⟨upd (upd (upd (upd (upd (upd ((fun _=>none)) 14 (some (.val (I i)))) 13 (some (.val (I (l.map Node.enc).length)))) 12 (some (.val (.slice .none 5 (l.map Node.enc))))) 4 (some (.loc 4 0))) 3 (some (.val (SL 1 (want.map fun x=>I (x + 1)))))) 1 (some (.val (.ptr o 0))),upd ((fun _=>none)) 4 (some (Core.cs c)),n,v,D,S⟩ Q:=by
 refine eloop (eseq (ereg (qp rfl (qb ?_))))
 rintro (_ | _) h1
 ·refine qk (kc rfl (kc rfl (kc rfl (kc rfl (kc rfl (kc rfl (kc rfl kn))))))) (kc rfl kn) (sqn (eseq (ecF rfl (eexit (sqx ?_)))))
  exact hX _ _ (by rw [List.drop_eq_nil_of_le (by simp at h1 ⊢;omega),List.drop_eq_nil_of_le (by simp at h1 ⊢;omega)];rfl) hS (Chg.refl _)
 ·refine qk (kc rfl (kc rfl (kc rfl (kc rfl (kc rfl (kc rfl (kc rfl kn))))))) (kc rfl kn) (sqn (eseq (ecT rfl (eskip (sqn (eseq (eblock (eseq (ereg (qp rfl ?_))))))))))
  have hlt:i < l.length:=by simpa using h1
  obtain ⟨a,ha⟩:=get_of_lt hlt
  have hd:=drop_cons ha
  refine hia (y:=.agg a.cs) rfl rfl (by omega) (by simp [ha,Node.enc_eq,Br.enc_eq,CFun.enc_eq]) rfl (hlda rfl rfl (lc rfl (lc rfl (lc rfl (lc rfl (lc rfl (ln rfl)))))) (hal (dc (dc (dc (dc (dc (dc (dc (dc (dc (dc dn rfl) rfl) rfl) rfl) rfl) rfl) rfl) rfl) rfl) rfl) (qp rfl (hstl rfl rfl rfl rfl (Nat.le_of_ble_eq_true rfl) (lc rfl (lc rfl (lc rfl (lc rfl (lc rfl (ln rfl)))))) (qk (kc rfl (kc rfl (kc rfl (kc rfl (kc rfl (kc rfl (kc rfl (kc rfl kn)))))))) (kc rfl (kc rfl kn)) (sqn (eseq (ereg (qp rfl (qp rfl (hcall rfl rfl rfl (Kind_c _ _) ?_)))))))))))
  rintro _ _ ⟨rfl,rfl⟩
  refine qp rfl (qp rfl ?_)
  obtain ⟨w,hw⟩:=get_of_lt (l:=want) (i:=i) (by omega)
  have hw2:=drop_cons hw
  refine hia (y:=I (w + 1)) rfl rfl (by omega) (by simp [hw]) rfl (qp rfl (qp rfl (qb ?_)))
  rintro (_ | _) h2
  ·refine qp rfl (qg rfl (hlda rfl rfl (lc rfl (lc rfl (ln rfl))) (qg rfl (qp rfl (qg rfl (hlda rfl rfl (lc rfl (lc rfl (lc rfl (lc rfl (lc rfl (ln rfl)))))) (qg rfl (hcall rfl rfl rfl (H a (List.mem_of_getElem? ha) _ o ix ia X A hS (hBX a (List.mem_of_getElem? ha)) (hBA a (List.mem_of_getElem? ha))) ?_))))))))
   rintro _ S1 ⟨rfl,hS1,hc1⟩
   refine qb ?_
   rintro (_ | _) h3
   ·refine qg rfl (qp rfl (qp rfl (qk (kc rfl (kc rfl (kc rfl (kc rfl (kc rfl (kc rfl (kc rfl kn))))))) (kc rfl kn) (sqn (ecT rfl (eseq (ereg (qp rfl (qk (kc rfl kn) kn (sqn (eret (bqr (sqr ?_)))))))))))))
    first
    | (have hv:vN c.decls c.funs a (pos X) (pos A)=false:=by assumption
       exact hR _ (by rw [hd,hw2];simp only [vNs,hv,Bool.and_false,Bool.false_and]) hS1 hc1)
    | (have e1:¬ sortOf a.op=w:=by simp at h2;omega
       exact hR _ (by rw [hd,hw2];simp only [vNs,decide_eq_false e1,Bool.false_and]) hS (Chg.refl _))
   ·refine qg rfl (qp rfl (qp rfl (qk (kc rfl (kc rfl (kc rfl (kc rfl (kc rfl (kc rfl (kc rfl kn))))))) (kc rfl kn) (sqn (ecF rfl (eskip (bqn (sqn (ereg (hadd rfl rfl (i64w (by omega)) (qp rfl (qk (kc rfl (kc rfl (kc rfl (kc rfl (kc rfl (kc rfl kn)))))) (kc rfl kn) ?_))))))))))))
    have hy:vNs c.decls c.funs (l.drop i) (want.drop i) (pos X) (pos A)=vNs c.decls c.funs (l.drop (i + 1)) (want.drop (i + 1)) (pos X) (pos A):=by
     rw [hd,hw2]
     have e1:sortOf a.op=w:=by simp at h2;omega
     simp only [vNs,decide_eq_true e1,Bool.true_and]
     rw [show vN c.decls c.funs a (pos X) (pos A)=true from by assumption,Bool.true_and]
    exact children_l c l want X A hlen hBX hBA H (i + 1) (by omega) hs hS1 (fun j S2 h s c=>hX j S2 (hy.trans h) s (hc1.trans c)) (fun S2 h s c=>hR S2 (hy.trans h) s (hc1.trans c))
  ·refine qp rfl (qs rfl rfl (by decide) (qs rfl rfl (by decide) (qs rfl rfl (by decide) (qs rfl rfl (by decide) (qs rfl rfl (by decide) (qp rfl (qk (kc rfl (kc rfl (kc rfl (kc rfl (kc rfl (kc rfl (kc rfl kn))))))) (kc rfl kn) (sqn (ecT rfl (eseq (ereg (qp rfl (qk (kc rfl kn) kn (sqn (eret (bqr (sqr ?_)))))))))))))))))
   first
   | (have hv:vN c.decls c.funs a (pos X) (pos A)=false:=by assumption
      exact hR _ (by rw [hd,hw2];simp only [vNs,hv,Bool.and_false,Bool.false_and]) hS1 hc1)
   | (have e1:¬ sortOf a.op=w:=by simp at h2;omega
      exact hR _ (by rw [hd,hw2];simp only [vNs,decide_eq_false e1,Bool.false_and]) hS (Chg.refl _))
termination_by l.length - i
decreasing_by all_goals omega
theorem children_c (s:Sg) (c:Core) (a:Node) (want:List Int) (o ix ia:Nat) (X A:Int → Int) (hz:a.args.length ≤ 2 ^ 40) (hlen:a.args.length=want.length) (hBX:∀ b ∈ a.args,Bn X (2 ^ 41 - b.sz)) (hBA:∀ b ∈ a.args,Bn A (2 ^ 41 - b.sz)) (H:∀ b ∈ a.args,ValidC c b) (hS:SC o ix ia X A s):HC p N103_ [.agg (Core.cs c),.ptr o 0,.agg a.cs,SL 1 (want.map fun x=>I (x + 1))] s (fun r s'=>r=[B (vNs c.decls c.funs a.args want (pos X) (pos A))] ∧ SC o ix ia X A s' ∧ Chg (IXA ix ia) s s'):=by
 refine hcf rfl f103_ rfl ?_
 simp only [chainOf]
 refine eseq (ereg (hbox (dc (dc (dc (dc dn rfl) rfl) rfl) rfl) rfl (lc rfl (lc rfl (ln rfl))) (hbox (dc (dc (dc (dc (dc dn rfl) rfl) rfl) rfl) rfl) rfl (lc rfl (lc rfl (lc rfl (lc rfl (lc rfl (ln rfl)))))) (qp rfl (qk (kc rfl (kc rfl (kc rfl (kc rfl kn)))) (kc rfl (kc rfl kn)) (sqn (eseq (eseq (ereg (qp rfl (qp rfl (qp rfl (qp rfl (qk (kc rfl (kc rfl (kc rfl (kc rfl (kc rfl (kc rfl kn)))))) (kc rfl kn) (sqn (eblock ?_))))))))))))))))
 refine children_l c a.args want X A hlen hBX hBA H 0 (by omega) (by omega) hS ?_ ?_
 ·intro j S' hj hS' hc
  refine bqx (sqn (eseq (ereg (qp rfl (qk (kc rfl kn) kn (sqn (eret (fqr rfl ?_))))))))
  refine ⟨?_,hS',hc⟩
  simp only [List.drop_zero] at hj
  rw [hj];rfl
 ·intro S' hj hS' hc
  refine bqr (sqr (fqr rfl ?_))
  refine ⟨?_,hS',hc⟩
  simp only [List.drop_zero] at hj
  rw [hj];rfl
end Go.Sim.Kd
namespace Go.Sim.Kd
open Go Go.Sim
theorem Br.sz_eq (b:Br):b.sz=1 + b.vars.length + b.co.length + b.body.sz:=by cases b;rfl
theorem Valid_l {o ix ia:Nat} (c:Core) (nd:Node) (l:List Br) (d:Decl) (X A:Int → Int) (hlen:l.length=d.xtors.length) (hd0:l ≠ [] → (1 ≤ nd.ty ∧ nd.ty ≤ c.decls.length) ∧ c.decls[(nd.ty - 1).toNat]?=some d) (hcl:c.decls.length ≤ 2 ^ 40) (hxa:∀ x ∈ d.xtors,x.args.length ≤ 2 ^ 40) (hzb:∀ b ∈ l,b.sz ≤ 2 ^ 40) (hBX:∀ b ∈ l,Bn X (2 ^ 41 - b.sz)) (hBA:∀ b ∈ l,Bn A (2 ^ 41 - b.sz)) (H:∀ b ∈ l,ValidC c b.body) (i:Nat) (hi:i ≤ l.length) (hs:l.length ≤ 2 ^ 40) {n:Nat} {v:Nat → Bool} {D:List (Nat × List AV)} {S:Sg} {Q:Ex → Fr → Prop}
 (hS:SC o ix ia X A S) (hX:∀ j S',vBs c.decls c.funs (l.drop i) (d.xtors.drop i) (pos X) (pos A)=true → SC o ix ia X A S' → Chg (IXA ix ia) S S' → Q (.exit 0) ⟨upd (upd (upd (upd (upd (upd (upd ((fun _=>none)) 70 (some (.val (B false)))) 69 (some (.val (I j)))) 68 (some (.val (I (l.map Br.enc).length)))) 67 (some (.val (.slice .none 7 (l.map Br.enc))))) 5 (some (.loc 5 0))) 3 (some (.loc 3 0))) 1 (some (.val (.ptr o 0))),upd (upd ((fun _=>none)) 5 (some (nd.cs))) 3 (some (Core.cs c)),n,v,D,S'⟩)
 (hR:∀ S',vBs c.decls c.funs (l.drop i) (d.xtors.drop i) (pos X) (pos A)=false → SC o ix ia X A S' → Chg (IXA ix ia) S S' → Q .ret ⟨upd ((fun _=>none)) 6 (some (.val (B false))),(fun _=>none),n,v,D,S'⟩):EX (callL p) (.loop F48_l1) ⟨upd (upd (upd (upd (upd (upd ((fun _=>none)) 69 (some (.val (I i)))) 68 (some (.val (I (l.map Br.enc).length)))) 67 (some (.val (.slice .none 7 (l.map Br.enc))))) 5 (some (.loc 5 0))) 3 (some (.loc 3 0))) 1 (some (.val (.ptr o 0))),upd (upd ((fun _=>none)) 5 (some (nd.cs))) 3 (some (Core.cs c)),n,v,D,S⟩ Q:=by
 refine eloop (eseq (ereg (qp rfl (qb ?_))))
 rintro (_ | _) h1
 ·refine qk (kc rfl (kc rfl (kc rfl (kc rfl (kc rfl (kc rfl (kc rfl kn))))))) (kc rfl (kc rfl kn)) (sqn (eseq (ecF rfl (eexit (sqx ?_)))))
  exact hX _ _ (by rw [List.drop_eq_nil_of_le (by simp at h1 ⊢;omega),List.drop_eq_nil_of_le (by simp at h1 ⊢;omega)];rfl) hS (Chg.refl _)
 ·refine qk (kc rfl (kc rfl (kc rfl (kc rfl (kc rfl (kc rfl (kc rfl kn))))))) (kc rfl (kc rfl kn)) (sqn (eseq (ecT rfl (eskip (sqn (eseq (eblock (eseq (ereg (qp rfl ?_))))))))))
  have hlt:i < l.length:=by simpa using h1
  obtain ⟨a,ha⟩:=get_of_lt hlt
  have hd:=drop_cons ha
  refine hia (y:=.agg (ints a.vars :: bools a.co :: a.body.cs)) rfl rfl (by omega) (by simp [ha,Node.enc_eq,Br.enc_eq,CFun.enc_eq]) rfl (hlda rfl rfl (lc rfl (lc rfl (lc rfl (lc rfl (lc rfl (lc rfl (lc rfl (ln rfl)))))))) (hal (dc (dc (dc (dc (dc (dc (dc (dc (dc (dc dn rfl) rfl) rfl) rfl) rfl) rfl) rfl) rfl) rfl) rfl) (qp rfl (hstl rfl rfl rfl rfl (Nat.le_of_ble_eq_true rfl) (lc rfl (lc rfl (lc rfl (lc rfl (lc rfl (lc rfl (lc rfl (ln rfl)))))))) (qk (kc rfl (kc rfl (kc rfl (kc rfl (kc rfl (kc rfl (kc rfl (kc rfl kn)))))))) (kc rfl (kc rfl (kc rfl kn))) (sqn (eseq (ereg (qp rfl (qp rfl (qp rfl (qp rfl ?_))))))))))))
  obtain ⟨hty,hdd⟩:=hd0 (by intro e;subst e;simp at hlt)
  obtain ⟨x,hx⟩:=get_of_lt (l:=d.xtors) (i:=i) (by omega)
  have hx2:=drop_cons hx
  have hsz:=Br.sz_eq a
  have hza:=hzb a (List.mem_of_getElem? ha)
  have hba:=hBX a (List.mem_of_getElem? ha)
  have hbb:=hBA a (List.mem_of_getElem? ha)
  refine hsub rfl rfl (i64w (by omega)) ?_
  refine hia (y:=Decl.enc d) rfl rfl (by omega) (by rw [List.getElem?_map,hdd];rfl) rfl ?_
  refine qp rfl (qp rfl (qp rfl (hia (y:=Xtor.enc x) rfl rfl (by omega) (by simp [hx]) rfl (qp rfl (qp rfl (hcall rfl rfl rfl (cos_c _ x.args (hxa x (List.mem_of_getElem? hx))) ?_))))))
  rintro _ _ ⟨rfl,rfl⟩
  rw [show x.args.map (fun a=>B a.co)=(x.args.map fun (q:Arg)=>q.co).map B from by simp]
  refine qp rfl (qk (kc rfl (kc rfl (kc rfl (kc rfl (kc rfl (kc rfl (kc rfl (kc rfl kn)))))))) (kc rfl (kc rfl (kc rfl kn))) (sqn (eseq (eseq (ereg (qp rfl (qp rfl (qp rfl (qp rfl (qp rfl (qp rfl (qb ?_))))))))))))
  rintro (_ | _) h2
  ·refine qp rfl (qg rfl (qp rfl (qg rfl (qp rfl (qg rfl (qp rfl (qg rfl (hcall rfl rfl rfl (SameBools_c _ a.co (x.args.map fun (q:Arg)=>q.co) (by omega)) ?_))))))))
   rintro _ _ ⟨rfl,rfl⟩
   refine qb ?_
   rintro (_ | _) h3
   ·refine qg rfl (qp rfl (qp rfl (qp rfl (qs rfl rfl (by decide) (qs rfl rfl (by decide) (qs rfl rfl (by decide) (qs rfl rfl (by decide) (qs rfl rfl (by decide) (qp rfl (qk (kc rfl (kc rfl (kc rfl (kc rfl (kc rfl (kc rfl (kc rfl (kc rfl kn)))))))) (kc rfl (kc rfl (kc rfl kn))) (sqn (ecT rfl (eseq (ereg (qp rfl (qk (kc rfl kn) kn (sqn (eret (sqr (bqr (sqr ?_)))))))))))))))))))))
    first
    | (have hy:vBs c.decls c.funs (l.drop i) (d.xtors.drop i) (pos X) (pos A)=(vB c.decls c.funs a x (pos X) (pos A) && vBs c.decls c.funs (l.drop (i + 1)) (d.xtors.drop (i + 1)) (pos X) (pos A)):=by rw [hd,hx2];rfl
       rw [vB_eq] at hy
       have f1:vN c.decls c.funs a.body (addsV false (pos X) a.vars a.co) (addsV true (pos A) a.vars a.co)=false:=by assumption
       rw [addsK_back,addsK_back] at hS3
       have hcc:=hc1.trans (hc2.trans hc3)
       exact hR S3 (by rw [hy,f1,Bool.and_false,Bool.false_and]) hS3 hcc)
    | (have hy:vBs c.decls c.funs (l.drop i) (d.xtors.drop i) (pos X) (pos A)=(vB c.decls c.funs a x (pos X) (pos A) && vBs c.decls c.funs (l.drop (i + 1)) (d.xtors.drop (i + 1)) (pos X) (pos A)):=by rw [hd,hx2];rfl
       rw [vB_eq] at hy
       have f2:decide (sortOf a.body.op + 1=3)=false:=by assumption
       have f3:decide (sortOf a.body.op=2)=false:=by simp at f2 ⊢;omega
       rw [addsK_back,addsK_back] at hS3
       have hcc:=hc1.trans (hc2.trans hc3)
       exact hR S3 (by rw [hy,f3];simp only [Bool.and_false,Bool.false_and]) hS3 hcc)
    | (have hy:vBs c.decls c.funs (l.drop i) (d.xtors.drop i) (pos X) (pos A)=(vB c.decls c.funs a x (pos X) (pos A) && vBs c.decls c.funs (l.drop (i + 1)) (d.xtors.drop (i + 1)) (pos X) (pos A)):=by rw [hd,hx2];rfl
       rw [vB_eq] at hy
       have f5:decide (a.co=(x.args.map fun (q:Arg)=>q.co))=true:=by assumption
       have f4:distinctOk [] (a.vars.zip (x.args.map fun (q:Arg)=>q.co))=false:=by assumption
       exact hR _ (by rw [hy,of_decide_eq_true f5,f4];simp only [Bool.and_false,Bool.false_and]) hS (Chg.refl _))
    | (have hy:vBs c.decls c.funs (l.drop i) (d.xtors.drop i) (pos X) (pos A)=(vB c.decls c.funs a x (pos X) (pos A) && vBs c.decls c.funs (l.drop (i + 1)) (d.xtors.drop (i + 1)) (pos X) (pos A)):=by rw [hd,hx2];rfl
       rw [vB_eq] at hy
       have f5:decide (a.co=(x.args.map fun (q:Arg)=>q.co))=false:=by assumption
       exact hR _ (by rw [hy,f5];simp only [Bool.and_false,Bool.false_and]) hS (Chg.refl _))
    | (have hy:vBs c.decls c.funs (l.drop i) (d.xtors.drop i) (pos X) (pos A)=(vB c.decls c.funs a x (pos X) (pos A) && vBs c.decls c.funs (l.drop (i + 1)) (d.xtors.drop (i + 1)) (pos X) (pos A)):=by rw [hd,hx2];rfl
       rw [vB_eq] at hy
       have f6:decide (a.vars.length=x.args.length)=false:=by
        simp at h2 ⊢;omega
       exact hR _ (by rw [hy,f6];simp only [Bool.and_false,Bool.false_and]) hS (Chg.refl _))
   ·refine qg rfl (qp rfl (qp rfl (qp rfl (qg rfl (qp rfl (qg rfl (qp rfl (qg rfl (qp rfl (qg rfl (hcall rfl rfl rfl (distinct_c _ a.vars (x.args.map fun (q:Arg)=>q.co) (by simp at *;omega) (by omega)) ?_)))))))))))
    rintro _ _ ⟨rfl,rfl⟩
    refine qb ?_
    rintro (_ | _) h4
    ·refine qg rfl (qp rfl (qp rfl (qk (kc rfl (kc rfl (kc rfl (kc rfl (kc rfl (kc rfl (kc rfl (kc rfl kn)))))))) (kc rfl (kc rfl (kc rfl kn))) (sqn (ecT rfl (eseq (ereg (qp rfl (qk (kc rfl kn) kn (sqn (eret (sqr (bqr (sqr ?_))))))))))))))
     first
     | (have hy:vBs c.decls c.funs (l.drop i) (d.xtors.drop i) (pos X) (pos A)=(vB c.decls c.funs a x (pos X) (pos A) && vBs c.decls c.funs (l.drop (i + 1)) (d.xtors.drop (i + 1)) (pos X) (pos A)):=by rw [hd,hx2];rfl
        rw [vB_eq] at hy
        have f1:vN c.decls c.funs a.body (addsV false (pos X) a.vars a.co) (addsV true (pos A) a.vars a.co)=false:=by assumption
        rw [addsK_back,addsK_back] at hS3
        have hcc:=hc1.trans (hc2.trans hc3)
        exact hR S3 (by rw [hy,f1,Bool.and_false,Bool.false_and]) hS3 hcc)
     | (have hy:vBs c.decls c.funs (l.drop i) (d.xtors.drop i) (pos X) (pos A)=(vB c.decls c.funs a x (pos X) (pos A) && vBs c.decls c.funs (l.drop (i + 1)) (d.xtors.drop (i + 1)) (pos X) (pos A)):=by rw [hd,hx2];rfl
        rw [vB_eq] at hy
        have f2:decide (sortOf a.body.op + 1=3)=false:=by assumption
        have f3:decide (sortOf a.body.op=2)=false:=by simp at f2 ⊢;omega
        rw [addsK_back,addsK_back] at hS3
        have hcc:=hc1.trans (hc2.trans hc3)
        exact hR S3 (by rw [hy,f3];simp only [Bool.and_false,Bool.false_and]) hS3 hcc)
     | (have hy:vBs c.decls c.funs (l.drop i) (d.xtors.drop i) (pos X) (pos A)=(vB c.decls c.funs a x (pos X) (pos A) && vBs c.decls c.funs (l.drop (i + 1)) (d.xtors.drop (i + 1)) (pos X) (pos A)):=by rw [hd,hx2];rfl
        rw [vB_eq] at hy
        have f5:decide (a.co=(x.args.map fun (q:Arg)=>q.co))=true:=by assumption
        have f4:distinctOk [] (a.vars.zip (x.args.map fun (q:Arg)=>q.co))=false:=by assumption
        exact hR _ (by rw [hy,of_decide_eq_true f5,f4];simp only [Bool.and_false,Bool.false_and]) hS (Chg.refl _))
     | (have hy:vBs c.decls c.funs (l.drop i) (d.xtors.drop i) (pos X) (pos A)=(vB c.decls c.funs a x (pos X) (pos A) && vBs c.decls c.funs (l.drop (i + 1)) (d.xtors.drop (i + 1)) (pos X) (pos A)):=by rw [hd,hx2];rfl
        rw [vB_eq] at hy
        have f5:decide (a.co=(x.args.map fun (q:Arg)=>q.co))=false:=by assumption
        exact hR _ (by rw [hy,f5];simp only [Bool.and_false,Bool.false_and]) hS (Chg.refl _))
     | (have hy:vBs c.decls c.funs (l.drop i) (d.xtors.drop i) (pos X) (pos A)=(vB c.decls c.funs a x (pos X) (pos A) && vBs c.decls c.funs (l.drop (i + 1)) (d.xtors.drop (i + 1)) (pos X) (pos A)):=by rw [hd,hx2];rfl
        rw [vB_eq] at hy
        have f6:decide (a.vars.length=x.args.length)=false:=by
         simp at h2 ⊢;omega
        exact hR _ (by rw [hy,f6];simp only [Bool.and_false,Bool.false_and]) hS (Chg.refl _))
    ·refine qg rfl (qp rfl (qp rfl (qk (kc rfl (kc rfl (kc rfl (kc rfl (kc rfl (kc rfl (kc rfl (kc rfl kn)))))))) (kc rfl (kc rfl (kc rfl kn))) (sqn (ecF rfl (eskip (sqn (eseq (ereg (qp rfl (hlda rfl rfl (lc rfl (lc rfl (lc rfl (lc rfl (lc rfl (lc rfl (lc rfl (ln rfl)))))))) (hcall rfl rfl rfl (branch_c _ o ix ia X A a hza 1 (by omega) hS (hba.bd (by omega)) (hbb.bd (by omega))) ?_))))))))))))
     rintro _ S1 ⟨rfl,hS1,hc1⟩
     obtain ⟨q1,q2⟩:=Bn.adds (w:=false) (vars:=a.vars) (cos:=a.co) hba
     obtain ⟨q3,q4⟩:=Bn.adds (w:=true) (vars:=a.vars) (cos:=a.co) hbb
     have hc2:Chg (IXA ix ia) S1 S1:=Chg.refl S1
     have hS2:=hS1
     refine qk (kc rfl (kc rfl (kc rfl (kc rfl (kc rfl (kc rfl (kc rfl kn))))))) (kc rfl (kc rfl (kc rfl kn))) (sqn (eseq (ereg (qp rfl (qp rfl (qp rfl (hcall rfl rfl rfl (Kind_c _ _) ?_)))))))
     rintro _ _ ⟨rfl,rfl⟩
     refine qp rfl (qb ?_)
     rintro (_ | _) h5
     ·refine qp rfl (qs rfl rfl (by decide) (qs rfl rfl (by decide) (qs rfl rfl (by decide) (qs rfl rfl (by decide) (qs rfl rfl (by decide) (qp rfl (qp rfl (qk (kc rfl (kc rfl (kc rfl (kc rfl (kc rfl (kc rfl (kc rfl (kc rfl kn)))))))) (kc rfl (kc rfl (kc rfl kn))) (sqn (eseq (ereg (qp rfl (hlda rfl rfl (lc rfl (lc rfl (lc rfl (lc rfl (lc rfl (lc rfl (lc rfl (ln rfl)))))))) (hcall rfl rfl rfl (branch_c _ o ix ia _ _ a hza (-1) (by omega) hS2 (q1.bd (by omega)) (q3.bd (by omega))) ?_))))))))))))))
      rintro _ S3 ⟨rfl,hS3,hc3⟩
      refine qk (kc rfl (kc rfl (kc rfl (kc rfl (kc rfl (kc rfl (kc rfl kn))))))) (kc rfl (kc rfl kn)) (sqn (eseq (ereg (qp rfl (qp rfl (qk (kc rfl (kc rfl (kc rfl (kc rfl (kc rfl (kc rfl (kc rfl kn))))))) (kc rfl (kc rfl kn)) (sqn (ecT rfl (eseq (ereg (qp rfl (qk (kc rfl kn) kn (sqn (eret (bqr (sqr ?_))))))))))))))))
      first
      | (have hy:vBs c.decls c.funs (l.drop i) (d.xtors.drop i) (pos X) (pos A)=(vB c.decls c.funs a x (pos X) (pos A) && vBs c.decls c.funs (l.drop (i + 1)) (d.xtors.drop (i + 1)) (pos X) (pos A)):=by rw [hd,hx2];rfl
         rw [vB_eq] at hy
         have f1:vN c.decls c.funs a.body (addsV false (pos X) a.vars a.co) (addsV true (pos A) a.vars a.co)=false:=by assumption
         rw [addsK_back,addsK_back] at hS3
         have hcc:=hc1.trans (hc2.trans hc3)
         exact hR S3 (by rw [hy,f1,Bool.and_false,Bool.false_and]) hS3 hcc)
      | (have hy:vBs c.decls c.funs (l.drop i) (d.xtors.drop i) (pos X) (pos A)=(vB c.decls c.funs a x (pos X) (pos A) && vBs c.decls c.funs (l.drop (i + 1)) (d.xtors.drop (i + 1)) (pos X) (pos A)):=by rw [hd,hx2];rfl
         rw [vB_eq] at hy
         have f2:decide (sortOf a.body.op + 1=3)=false:=by assumption
         have f3:decide (sortOf a.body.op=2)=false:=by simp at f2 ⊢;omega
         rw [addsK_back,addsK_back] at hS3
         have hcc:=hc1.trans (hc2.trans hc3)
         exact hR S3 (by rw [hy,f3];simp only [Bool.and_false,Bool.false_and]) hS3 hcc)
      | (have hy:vBs c.decls c.funs (l.drop i) (d.xtors.drop i) (pos X) (pos A)=(vB c.decls c.funs a x (pos X) (pos A) && vBs c.decls c.funs (l.drop (i + 1)) (d.xtors.drop (i + 1)) (pos X) (pos A)):=by rw [hd,hx2];rfl
         rw [vB_eq] at hy
         have f5:decide (a.co=(x.args.map fun (q:Arg)=>q.co))=true:=by assumption
         have f4:distinctOk [] (a.vars.zip (x.args.map fun (q:Arg)=>q.co))=false:=by assumption
         exact hR _ (by rw [hy,of_decide_eq_true f5,f4];simp only [Bool.and_false,Bool.false_and]) hS (Chg.refl _))
      | (have hy:vBs c.decls c.funs (l.drop i) (d.xtors.drop i) (pos X) (pos A)=(vB c.decls c.funs a x (pos X) (pos A) && vBs c.decls c.funs (l.drop (i + 1)) (d.xtors.drop (i + 1)) (pos X) (pos A)):=by rw [hd,hx2];rfl
         rw [vB_eq] at hy
         have f5:decide (a.co=(x.args.map fun (q:Arg)=>q.co))=false:=by assumption
         exact hR _ (by rw [hy,f5];simp only [Bool.and_false,Bool.false_and]) hS (Chg.refl _))
      | (have hy:vBs c.decls c.funs (l.drop i) (d.xtors.drop i) (pos X) (pos A)=(vB c.decls c.funs a x (pos X) (pos A) && vBs c.decls c.funs (l.drop (i + 1)) (d.xtors.drop (i + 1)) (pos X) (pos A)):=by rw [hd,hx2];rfl
         rw [vB_eq] at hy
         have f6:decide (a.vars.length=x.args.length)=false:=by
          simp at h2 ⊢;omega
         exact hR _ (by rw [hy,f6];simp only [Bool.and_false,Bool.false_and]) hS (Chg.refl _))
     ·refine qp rfl (qg rfl (hlda rfl rfl (lc rfl (lc rfl (ln rfl))) (qg rfl (qp rfl (qg rfl (qp rfl (qg rfl (hlda rfl rfl (lc rfl (lc rfl (lc rfl (lc rfl (lc rfl (ln rfl)))))) (qg rfl (hcall rfl rfl rfl (H a (List.mem_of_getElem? ha) _ o ix ia _ _ hS1 (q1.le (by omega)) (q3.le (by omega))) ?_))))))))))
      rintro _ S2 ⟨rfl,hS2,hc2⟩
      rw [q2,q4]
      refine qb ?_
      rintro (_ | _) h6
      ·refine qp rfl (qp rfl (qk (kc rfl (kc rfl (kc rfl (kc rfl (kc rfl (kc rfl (kc rfl (kc rfl kn)))))))) (kc rfl (kc rfl (kc rfl kn))) (sqn (eseq (ereg (qp rfl (hlda rfl rfl (lc rfl (lc rfl (lc rfl (lc rfl (lc rfl (lc rfl (lc rfl (ln rfl)))))))) (hcall rfl rfl rfl (branch_c _ o ix ia _ _ a hza (-1) (by omega) hS2 (q1.bd (by omega)) (q3.bd (by omega))) ?_))))))))
       rintro _ S3 ⟨rfl,hS3,hc3⟩
       refine qk (kc rfl (kc rfl (kc rfl (kc rfl (kc rfl (kc rfl (kc rfl kn))))))) (kc rfl (kc rfl kn)) (sqn (eseq (ereg (qp rfl (qp rfl (qk (kc rfl (kc rfl (kc rfl (kc rfl (kc rfl (kc rfl (kc rfl kn))))))) (kc rfl (kc rfl kn)) (sqn (ecT rfl (eseq (ereg (qp rfl (qk (kc rfl kn) kn (sqn (eret (bqr (sqr ?_))))))))))))))))
       first
       | (have hy:vBs c.decls c.funs (l.drop i) (d.xtors.drop i) (pos X) (pos A)=(vB c.decls c.funs a x (pos X) (pos A) && vBs c.decls c.funs (l.drop (i + 1)) (d.xtors.drop (i + 1)) (pos X) (pos A)):=by rw [hd,hx2];rfl
          rw [vB_eq] at hy
          have f1:vN c.decls c.funs a.body (addsV false (pos X) a.vars a.co) (addsV true (pos A) a.vars a.co)=false:=by assumption
          rw [addsK_back,addsK_back] at hS3
          have hcc:=hc1.trans (hc2.trans hc3)
          exact hR S3 (by rw [hy,f1,Bool.and_false,Bool.false_and]) hS3 hcc)
       | (have hy:vBs c.decls c.funs (l.drop i) (d.xtors.drop i) (pos X) (pos A)=(vB c.decls c.funs a x (pos X) (pos A) && vBs c.decls c.funs (l.drop (i + 1)) (d.xtors.drop (i + 1)) (pos X) (pos A)):=by rw [hd,hx2];rfl
          rw [vB_eq] at hy
          have f2:decide (sortOf a.body.op + 1=3)=false:=by assumption
          have f3:decide (sortOf a.body.op=2)=false:=by simp at f2 ⊢;omega
          rw [addsK_back,addsK_back] at hS3
          have hcc:=hc1.trans (hc2.trans hc3)
          exact hR S3 (by rw [hy,f3];simp only [Bool.and_false,Bool.false_and]) hS3 hcc)
       | (have hy:vBs c.decls c.funs (l.drop i) (d.xtors.drop i) (pos X) (pos A)=(vB c.decls c.funs a x (pos X) (pos A) && vBs c.decls c.funs (l.drop (i + 1)) (d.xtors.drop (i + 1)) (pos X) (pos A)):=by rw [hd,hx2];rfl
          rw [vB_eq] at hy
          have f5:decide (a.co=(x.args.map fun (q:Arg)=>q.co))=true:=by assumption
          have f4:distinctOk [] (a.vars.zip (x.args.map fun (q:Arg)=>q.co))=false:=by assumption
          exact hR _ (by rw [hy,of_decide_eq_true f5,f4];simp only [Bool.and_false,Bool.false_and]) hS (Chg.refl _))
       | (have hy:vBs c.decls c.funs (l.drop i) (d.xtors.drop i) (pos X) (pos A)=(vB c.decls c.funs a x (pos X) (pos A) && vBs c.decls c.funs (l.drop (i + 1)) (d.xtors.drop (i + 1)) (pos X) (pos A)):=by rw [hd,hx2];rfl
          rw [vB_eq] at hy
          have f5:decide (a.co=(x.args.map fun (q:Arg)=>q.co))=false:=by assumption
          exact hR _ (by rw [hy,f5];simp only [Bool.and_false,Bool.false_and]) hS (Chg.refl _))
       | (have hy:vBs c.decls c.funs (l.drop i) (d.xtors.drop i) (pos X) (pos A)=(vB c.decls c.funs a x (pos X) (pos A) && vBs c.decls c.funs (l.drop (i + 1)) (d.xtors.drop (i + 1)) (pos X) (pos A)):=by rw [hd,hx2];rfl
          rw [vB_eq] at hy
          have f6:decide (a.vars.length=x.args.length)=false:=by
           simp at h2 ⊢;omega
          exact hR _ (by rw [hy,f6];simp only [Bool.and_false,Bool.false_and]) hS (Chg.refl _))
      ·refine qp rfl (qp rfl (qk (kc rfl (kc rfl (kc rfl (kc rfl (kc rfl (kc rfl (kc rfl (kc rfl kn)))))))) (kc rfl (kc rfl (kc rfl kn))) (sqn (eseq (ereg (qp rfl (hlda rfl rfl (lc rfl (lc rfl (lc rfl (lc rfl (lc rfl (lc rfl (lc rfl (ln rfl)))))))) (hcall rfl rfl rfl (branch_c _ o ix ia _ _ a hza (-1) (by omega) hS2 (q1.bd (by omega)) (q3.bd (by omega))) ?_))))))))
       rintro _ S3 ⟨rfl,hS3,hc3⟩
       refine qk (kc rfl (kc rfl (kc rfl (kc rfl (kc rfl (kc rfl (kc rfl kn))))))) (kc rfl (kc rfl kn)) (sqn (eseq (ereg (qp rfl (qp rfl (qk (kc rfl (kc rfl (kc rfl (kc rfl (kc rfl (kc rfl (kc rfl kn))))))) (kc rfl (kc rfl kn)) (sqn (ecF rfl (eskip (bqn (sqn (ereg (hadd rfl rfl (i64w (by omega)) (qp rfl (qk (kc rfl (kc rfl (kc rfl (kc rfl (kc rfl (kc rfl kn)))))) (kc rfl (kc rfl kn)) ?_)))))))))))))))
       have hy:vBs c.decls c.funs (l.drop i) (d.xtors.drop i) (pos X) (pos A)=(vB c.decls c.funs a x (pos X) (pos A) && vBs c.decls c.funs (l.drop (i + 1)) (d.xtors.drop (i + 1)) (pos X) (pos A)):=by rw [hd,hx2];rfl
       rw [vB_eq] at hy
       have f5:decide (a.co=(x.args.map fun (q:Arg)=>q.co))=true:=by assumption
       have f1:vN c.decls c.funs a.body (addsV false (pos X) a.vars a.co) (addsV true (pos A) a.vars a.co)=true:=by assumption
       have f2:decide (sortOf a.body.op + 1=3)=true:=by assumption
       have f3:decide (sortOf a.body.op=2)=true:=by simp at f2 ⊢;omega
       have f4:distinctOk [] (a.vars.zip (x.args.map fun (q:Arg)=>q.co))=true:=by assumption
       have f6:decide (a.vars.length=x.args.length)=true:=by simp at h2 ⊢;omega
       rw [← of_decide_eq_true f5] at f4
       rw [f1,f3,f4,f6,show decide (a.co=x.args.map fun a=>a.co)=true from f5] at hy
       simp only [Bool.and_true,Bool.true_and] at hy
       rw [addsK_back,addsK_back] at hS3
       have hcc:=hc1.trans (hc2.trans hc3)
       exact Valid_l c nd l d X A hlen hd0 hcl hxa hzb hBX hBA H (i + 1) (by omega) hs hS3 (fun j S4 h s cc=>hX j S4 (hy.trans h) s (hcc.trans cc)) (fun S4 h s cc=>hR S4 (hy.trans h) s (hcc.trans cc))
  ·refine qp rfl (qs rfl rfl (by decide) (qs rfl rfl (by decide) (qs rfl rfl (by decide) (qs rfl rfl (by decide) (qs rfl rfl (by decide) (qp rfl (qp rfl (qs rfl rfl (by decide) (qs rfl rfl (by decide) (qs rfl rfl (by decide) (qs rfl rfl (by decide) (qs rfl rfl (by decide) (qp rfl (qk (kc rfl (kc rfl (kc rfl (kc rfl (kc rfl (kc rfl (kc rfl (kc rfl kn)))))))) (kc rfl (kc rfl (kc rfl kn))) (sqn (ecT rfl (eseq (ereg (qp rfl (qk (kc rfl kn) kn (sqn (eret (sqr ?_)))))))))))))))))))))))
   refine bqr (sqr ?_)
   first
   | (have hy:vBs c.decls c.funs (l.drop i) (d.xtors.drop i) (pos X) (pos A)=(vB c.decls c.funs a x (pos X) (pos A) && vBs c.decls c.funs (l.drop (i + 1)) (d.xtors.drop (i + 1)) (pos X) (pos A)):=by rw [hd,hx2];rfl
      rw [vB_eq] at hy
      have f1:vN c.decls c.funs a.body (addsV false (pos X) a.vars a.co) (addsV true (pos A) a.vars a.co)=false:=by assumption
      rw [addsK_back,addsK_back] at hS3
      have hcc:=hc1.trans (hc2.trans hc3)
      exact hR S3 (by rw [hy,f1,Bool.and_false,Bool.false_and]) hS3 hcc)
   | (have hy:vBs c.decls c.funs (l.drop i) (d.xtors.drop i) (pos X) (pos A)=(vB c.decls c.funs a x (pos X) (pos A) && vBs c.decls c.funs (l.drop (i + 1)) (d.xtors.drop (i + 1)) (pos X) (pos A)):=by rw [hd,hx2];rfl
      rw [vB_eq] at hy
      have f2:decide (sortOf a.body.op + 1=3)=false:=by assumption
      have f3:decide (sortOf a.body.op=2)=false:=by simp at f2 ⊢;omega
      rw [addsK_back,addsK_back] at hS3
      have hcc:=hc1.trans (hc2.trans hc3)
      exact hR S3 (by rw [hy,f3];simp only [Bool.and_false,Bool.false_and]) hS3 hcc)
   | (have hy:vBs c.decls c.funs (l.drop i) (d.xtors.drop i) (pos X) (pos A)=(vB c.decls c.funs a x (pos X) (pos A) && vBs c.decls c.funs (l.drop (i + 1)) (d.xtors.drop (i + 1)) (pos X) (pos A)):=by rw [hd,hx2];rfl
      rw [vB_eq] at hy
      have f5:decide (a.co=(x.args.map fun (q:Arg)=>q.co))=true:=by assumption
      have f4:distinctOk [] (a.vars.zip (x.args.map fun (q:Arg)=>q.co))=false:=by assumption
      exact hR _ (by rw [hy,of_decide_eq_true f5,f4];simp only [Bool.and_false,Bool.false_and]) hS (Chg.refl _))
   | (have hy:vBs c.decls c.funs (l.drop i) (d.xtors.drop i) (pos X) (pos A)=(vB c.decls c.funs a x (pos X) (pos A) && vBs c.decls c.funs (l.drop (i + 1)) (d.xtors.drop (i + 1)) (pos X) (pos A)):=by rw [hd,hx2];rfl
      rw [vB_eq] at hy
      have f5:decide (a.co=(x.args.map fun (q:Arg)=>q.co))=false:=by assumption
      exact hR _ (by rw [hy,f5];simp only [Bool.and_false,Bool.false_and]) hS (Chg.refl _))
   | (have hy:vBs c.decls c.funs (l.drop i) (d.xtors.drop i) (pos X) (pos A)=(vB c.decls c.funs a x (pos X) (pos A) && vBs c.decls c.funs (l.drop (i + 1)) (d.xtors.drop (i + 1)) (pos X) (pos A)):=by rw [hd,hx2];rfl
      rw [vB_eq] at hy
      have f6:decide (a.vars.length=x.args.length)=false:=by
       simp at h2 ⊢;omega
      exact hR _ (by rw [hy,f6];simp only [Bool.and_false,Bool.false_and]) hS (Chg.refl _))
termination_by l.length - i
decreasing_by all_goals omega
structure CoreSz (c:Core):Prop where
 dl:c.decls.length ≤ 2 ^ 40
 xa:∀ d ∈ c.decls,∀ x ∈ d.xtors,x.args.length ≤ 2 ^ 40
 ga:∀ g ∈ c.funs,g.params.length ≤ 2 ^ 40
theorem ArgsR.some {h:Option (List Int × List Xtor)} {w:List Int} {k:Int} {ok:Bool} (a:ArgsR h w k ok) (e:ok=true):∃ want xs,h=some (want,xs) ∧ w=want.map (· + 1) ∧ k=xs.length:=by
 unfold ArgsR at a
 split at a
 ·rename_i want xs;exact ⟨want,xs,rfl,a.2.1,a.2.2⟩
 ·rw [a] at e;cases e
theorem ArgsR.none {h:Option (List Int × List Xtor)} {w:List Int} {k:Int} {ok:Bool} (a:ArgsR h w k ok) (e:ok=false):h=none:=by
 unfold ArgsR at a
 split at a
 ·rw [a.1] at e;cases e
 ·rfl
theorem head_xs {ds:List Decl} {fs:List CFun} {op n ty:Int} {want:List Int} {xs:List Xtor} (h:headOf ds fs op n ty=some (want,xs)):∃ d:Decl,xs=d.xtors ∧ (xs ≠ [] → (1 ≤ ty ∧ ty ≤ ds.length) ∧ ds[(ty - 1).toNat]?=some d) ∧ (xs ≠ [] → d ∈ ds):=by
 by_cases hm:op=4 ∨ op=8
 ·have hq:decide (op=4)=true ∨ decide (op=8)=true:=by simpa using hm
  rw [head_match hq] at h
  split at h
  ·rename_i d hd
   split at h
   ·simp only [Option.some.injEq,Prod.mk.injEq] at h
    have hb:=declAt_bounds hd
    rw [declAt,if_pos hb.1] at hd
    exact ⟨d,h.2.symm,fun _=>⟨hb,hd⟩,fun _=>List.mem_of_getElem? hd⟩
   ·cases h
  ·cases h
 ·have key:∀ (cnd:Prop) [Decidable cnd] (w:List Int),(if cnd then some (w,([]:List Xtor)) else none)=some (want,xs) → xs=[]:=by
   intro cnd _ w h
   split at h
   ·simp only [Option.some.injEq,Prod.mk.injEq] at h;exact h.2.symm
   ·cases h
  have this:xs=[]:=by
   by_cases h0:op=0 ∨ op=5
   ·rw [head_var (by simpa using h0)] at h;exact key _ _ h
   by_cases h1:op=1
   ·rw [head_int (by simpa using h1)] at h;exact key _ _ h
   by_cases h2:op=2 ∨ op=6
   ·rw [head_xtor (by simpa using h2)] at h
    split at h
    ·split at h
     ·simp only [Option.map_eq_some_iff,Prod.mk.injEq] at h;obtain ⟨_,_,_,h⟩:=h;exact h.symm
     ·cases h
    ·cases h
   by_cases h3:op=3 ∨ op=7
   ·rw [head_mu (by simpa using h3)] at h;exact key _ _ h
   by_cases h9:op=9
   ·rw [head_cut (by simpa using h9)] at h;exact key _ _ h
   by_cases h10:op=10
   ·rw [head_prim (by simpa using h10)] at h;exact key _ _ h
   by_cases h11:op=11
   ·rw [head_ifz (by simpa using h11)] at h;exact key _ _ h
   by_cases h12:op=12
   ·rw [head_emit (by simpa using h12)] at h;exact key _ _ h
   by_cases h13:op=13
   ·rw [head_call (by simpa using h13)] at h
    split at h
    ·simp only [Option.map_eq_some_iff,Prod.mk.injEq] at h;obtain ⟨_,_,_,h⟩:=h;exact h.symm
    ·cases h
   by_cases h14:op=14
   ·rw [head_done (by simpa using h14)] at h;exact key _ _ h
   rw [head_no (by simpa using h0) (by simpa using h1) (by simpa using h2) (by simpa using h3) (by simp;omega) (by simp;omega) (by simpa using h9) (by simpa using h10) (by simpa using h11) (by simpa using h12) (by simpa using h13) (by simpa using h14)] at h
   cases h
  subst this
  exact ⟨⟨⟨#[]⟩,false,[]⟩,rfl,fun h=>absurd rfl h,fun h=>absurd rfl h⟩
theorem pos_muX {X:Int → Int} {k:Int} (h:Bn X k) (a:Node):pos (muX X a 1)=(if a.op=7 then addV (pos X) a.n else pos X):=by
 unfold muX
 split
 ·exact pos_add h
 ·rfl
theorem pos_muA {X:Int → Int} {k:Int} (h:Bn X k) (a:Node):pos (muA X a 1)=(if a.op=3 then addV (pos X) a.n else pos X):=by
 unfold muA
 split
 ·exact pos_add h
 ·rfl
theorem Bn.muX {X:Int → Int} {k:Int} (h:Bn X k) (a:Node):Bn (muX X a 1) (k + 1):=by
 unfold Kd.muX
 split
 ·exact h.add
 ·exact h.le (by omega)
theorem Bn.muA {X:Int → Int} {k:Int} (h:Bn X k) (a:Node):Bn (muA X a 1) (k + 1):=by
 unfold Kd.muA
 split
 ·exact h.add
 ·exact h.le (by omega)
theorem muX_back (X:Int → Int) (a:Node):muX (muX X a 1) a (-1)=X:=by
 unfold muX
 split
 ·exact addK_back X a.n
 ·rfl
theorem muA_back (X:Int → Int) (a:Node):muA (muA X a 1) a (-1)=X:=by
 unfold muA
 split
 ·exact addK_back X a.n
 ·rfl
theorem vNs_len {ds:List Decl} {fs:List CFun}:∀ {as:List Node} {ws:List Int} {X A:Int → Bool},vNs ds fs as ws X A=true → as.length=ws.length
 | [],[],_,_,_=>rfl
 | [],_ :: _,_,_,h=>by simp [vNs] at h
 | _ :: _,[],_,_,h=>by simp [vNs] at h
 | a :: as,w :: ws,X,A,h=>by
   simp only [vNs,Bool.and_eq_true] at h
   simp [vNs_len h.2]
theorem vBs_len {ds:List Decl} {fs:List CFun}:∀ {as:List Br} {ws:List Xtor} {X A:Int → Bool},vBs ds fs as ws X A=true → as.length=ws.length
 | [],[],_,_,_=>rfl
 | [],_ :: _,_,_,h=>by simp [vBs] at h
 | _ :: _,[],_,_,h=>by simp [vBs] at h
 | a :: as,w :: ws,X,A,h=>by
   simp only [vBs,Bool.and_eq_true] at h
   simp [vBs_len h.2]
theorem Valid_c0 (c:Core) (hc:CoreSz c) (nd:Node) (hz:nd.sz ≤ 2 ^ 40) (H1:∀ b ∈ nd.args,ValidC c b) (H2:∀ b ∈ nd.brs,ValidC c b.body) (s:Sg) (o ix ia:Nat) (X A:Int → Int) (hS:SC o ix ia X A s) (hBX:Bn X (2 ^ 41 - nd.sz)) (hBA:Bn A (2 ^ 41 - nd.sz)):HC p N48_ [.agg (Core.cs c),.ptr o 0,.agg nd.cs] s (fun r s'=>r=[B (vN c.decls c.funs nd (pos X) (pos A))] ∧ SC o ix ia X A s' ∧ Chg (IXA ix ia) s s'):=by
 refine hcf rfl f48_ rfl ?_
 simp only [chainOf]
 refine eseq (ereg (hbox (dc (dc (dc dn rfl) rfl) rfl) rfl (lc rfl (lc rfl (ln rfl))) (hbox (dc (dc (dc (dc dn rfl) rfl) rfl) rfl) rfl (lc rfl (lc rfl (lc rfl (lc rfl (lc rfl (ln rfl)))))) (qp rfl (qk (kc rfl (kc rfl (kc rfl kn))) (kc rfl (kc rfl kn)) (sqn (eseq (ereg (hlda rfl rfl (lc rfl (lc rfl (ln rfl))) (hlda rfl rfl (lc rfl (lc rfl (lc rfl (lc rfl (lc rfl (ln rfl)))))) (hcall rfl rfl rfl (args_c _ c nd hc.dl (fun d hd x hx=>hc.xa d (List.mem_of_getElem? hd) x (List.mem_of_getElem? hx)) (fun g hg=>hc.ga g (List.mem_of_getElem? hg))) ?_)))))))))))
 rintro _ _ ⟨⟨w,k,ok,rfl,hA⟩,hq⟩
 obtain rfl:=hq.symm
 refine qp rfl (qp rfl (qp rfl (qp rfl (qb ?_))))
 rintro (_ | _) h1
 ·refine qp rfl (qp rfl (qp rfl (qk (kc rfl (kc rfl (kc rfl (kc rfl (kc rfl (kc rfl kn)))))) (kc rfl (kc rfl kn)) (sqn (eseq (eseq (ereg (qp rfl (qp rfl (qp rfl (qs rfl rfl (by decide) (qs rfl rfl (by decide) (qs rfl rfl (by decide) (qs rfl rfl (by decide) (qs rfl rfl (by decide) (qs rfl rfl (by decide) (qp rfl (qp rfl (qs rfl rfl (by decide) (qs rfl rfl (by decide) (qs rfl rfl (by decide) (qs rfl rfl (by decide) (qs rfl rfl (by decide) ?_)))))))))))))))))))))))
  refine qp rfl (qk (kc rfl (kc rfl (kc rfl (kc rfl (kc rfl kn))))) (kc rfl (kc rfl kn)) (sqn (ecT rfl (eseq (ereg (qp rfl (qk (kc rfl kn) kn (sqn (eret (sqr (fqr rfl ?_)))))))))))
  first
  | (have e:=hA.none (by assumption)
     exact ⟨by rw [vN_eq,e];rfl,hS,Chg.refl _⟩)
  | (obtain ⟨want,xs,hh,hw,hk⟩:=hA.some (by assumption)
     have e:vN c.decls c.funs nd (pos X) (pos A)=false:=by
      rw [vN_eq,hh]
      simp only
      rw [Bool.eq_false_iff]
      intro h
      simp only [Bool.and_eq_true] at h
      have l1:=vNs_len h.1.2
      have l2:=vBs_len h.2
      subst hw
      simp at *
      omega
     exact ⟨by rw [e];rfl,hS,Chg.refl _⟩)
 ·refine qp rfl (qp rfl (qp rfl (qk (kc rfl (kc rfl (kc rfl (kc rfl (kc rfl (kc rfl kn)))))) (kc rfl (kc rfl kn)) (sqn (eseq (eseq (ereg (qp rfl (qp rfl (qp rfl (qg rfl (qp rfl (qg rfl (qp rfl (qg rfl (qp rfl (qg rfl (qp rfl (qg rfl (qp rfl (qg rfl (qp rfl (qb ?_)))))))))))))))))))))))
  rintro (_ | _) h2
  ·refine qp rfl (qp rfl (qg rfl (qp rfl (qg rfl (qp rfl (qg rfl (qp rfl (qg rfl (qp rfl (qg rfl (qp rfl (qb ?_))))))))))))
   rintro (_ | _) h3
   ·refine qp rfl (qk (kc rfl (kc rfl (kc rfl (kc rfl (kc rfl kn))))) (kc rfl (kc rfl kn)) (sqn (ecF rfl (eskip (sqn (eseq (eseq (ereg ?_))))))))
    obtain ⟨want,xs,hh,hw,hk⟩:=hA.some (by assumption)
    subst hw
    rw [show (want.map (· + 1)).map I=want.map fun x=>I (x + 1) from by simp]
    refine qp rfl (qp rfl (qp rfl (qb ?_)))
    rintro (_ | _) h4
    ·refine qp rfl (qg rfl (qp rfl (qg rfl (qp rfl (qg rfl (qp rfl (qb ?_)))))))
     rintro (_ | _) h5
     ·refine qp rfl (qk (kc rfl (kc rfl (kc rfl (kc rfl (kc rfl kn))))) (kc rfl (kc rfl kn)) (sqn (ecF rfl (eskip (sqn (eseq (ereg (qp rfl (hlda rfl rfl (lc rfl (lc rfl (lc rfl (lc rfl (lc rfl (ln rfl)))))) (hcall rfl rfl rfl (mu_c _ o ix ia X A nd 1 (by omega) hS (hBX.bd (by omega)) (hBA.bd (by omega))) ?_))))))))))
      rintro _ S1 ⟨rfl,hS1,hc1⟩
      refine qk (kc rfl (kc rfl (kc rfl (kc rfl kn)))) (kc rfl (kc rfl kn)) (sqn (eseq (ereg (hlda rfl rfl (lc rfl (lc rfl (ln rfl))) (qp rfl (hlda rfl rfl (lc rfl (lc rfl (lc rfl (lc rfl (lc rfl (ln rfl)))))) (qp rfl (hcall rfl rfl rfl (children_c _ c nd want o ix ia _ _ (by have:=nd.sz_args;omega) (by simp at *;omega) (fun b hb=>(hBX.muX nd).le (by have:=Node.sz_arg hb;omega)) (fun b hb=>(hBA.muA nd).le (by have:=Node.sz_arg hb;omega)) H1 hS1) ?_))))))))
      rintro _ S2 ⟨rfl,hS2,hc2⟩
      rw [pos_muX hBX,pos_muA hBA]
      refine qb ?_
      rintro (_ | _) h6
      ·refine qp rfl (qk (kc rfl (kc rfl (kc rfl (kc rfl kn)))) (kc rfl (kc rfl kn)) (sqn (eseq (ereg (qp rfl (hlda rfl rfl (lc rfl (lc rfl (lc rfl (lc rfl (lc rfl (ln rfl)))))) (hcall rfl rfl rfl (mu_c _ o ix ia _ _ nd (-1) (by omega) hS2 ((hBX.muX nd).bd (by omega)) ((hBA.muA nd).bd (by omega))) ?_)))))))
       rintro _ S3 ⟨rfl,hS3,hc3⟩
       rw [muX_back,muA_back] at hS3
       refine qk (kc rfl (kc rfl (kc rfl (kc rfl kn)))) (kc rfl (kc rfl kn)) (sqn (eseq (eseq (ereg (qp rfl (qp rfl (qk (kc rfl (kc rfl (kc rfl (kc rfl kn)))) (kc rfl (kc rfl kn)) (sqn (ecT rfl (eseq (ereg (qp rfl (qk (kc rfl kn) kn (sqn (eret (sqr (fqr rfl ?_)))))))))))))))))
       have g:vNs c.decls c.funs nd.args want (if nd.op=7 then addV (pos X) nd.n else pos X) (if nd.op=3 then addV (pos A) nd.n else pos A)=false:=by assumption
       have e:vN c.decls c.funs nd (pos X) (pos A)=false:=by
        rw [vN_eq,hh]
        simp only [g,Bool.and_false,Bool.false_and]
       exact ⟨by rw [e];rfl,hS3,hc1.trans (hc2.trans hc3)⟩
      ·refine qp rfl (qk (kc rfl (kc rfl (kc rfl (kc rfl kn)))) (kc rfl (kc rfl kn)) (sqn (eseq (ereg (qp rfl (hlda rfl rfl (lc rfl (lc rfl (lc rfl (lc rfl (lc rfl (ln rfl)))))) (hcall rfl rfl rfl (mu_c _ o ix ia _ _ nd (-1) (by omega) hS2 ((hBX.muX nd).bd (by omega)) ((hBA.muA nd).bd (by omega))) ?_)))))))
       rintro _ S3 ⟨rfl,hS3,hc3⟩
       rw [muX_back,muA_back] at hS3
       refine qk (kc rfl (kc rfl (kc rfl (kc rfl kn)))) (kc rfl (kc rfl kn)) (sqn (eseq (eseq (ereg (qp rfl (qp rfl (qk (kc rfl (kc rfl (kc rfl (kc rfl kn)))) (kc rfl (kc rfl kn)) (sqn (ecF rfl (eskip (sqn (eseq (eseq (ereg (qp rfl (qp rfl (qp rfl (qp rfl (qk (kc rfl (kc rfl (kc rfl (kc rfl (kc rfl (kc rfl kn)))))) (kc rfl (kc rfl kn)) (sqn (eblock ?_)))))))))))))))))))))
       obtain ⟨d,hd1,hd2,hd3⟩:=head_xs hh
       have hlen:nd.brs.length=d.xtors.length:=by
        have hb:nd.brs.length=xs.length:=by simp at *;omega
        rw [hb,hd1]
       have hne:nd.brs ≠ [] → xs ≠ []:=by
        intro h e
        apply h
        apply List.eq_nil_of_length_eq_zero
        rw [hlen,← hd1,e]
        rfl
       refine Valid_l c nd nd.brs d X A hlen (fun h=>hd2 (hne h)) hc.dl (fun x hx=>hc.xa d (hd3 (by rw [hd1];exact List.ne_nil_of_mem hx)) x hx) (fun b hb=>by have:=Node.sz_br hb;omega) (fun b hb=>hBX.le (by have:=Node.sz_br hb;omega)) (fun b hb=>hBA.le (by have:=Node.sz_br hb;omega)) H2 0 (by omega) (by have:=nd.sz_brs;omega) hS3 ?_ ?_
       ·intro j S4 hj hS4 hc4
        refine bqx (sqn (eseq (ereg (qp rfl (qk (kc rfl kn) kn (sqn (eret (fqr rfl ?_))))))))
        have g:vBs c.decls c.funs nd.brs xs (pos X) (pos A)=true:=by rw [hd1];exact hj
        have g2:vNs c.decls c.funs nd.args want (if nd.op=7 then addV (pos X) nd.n else pos X) (if nd.op=3 then addV (pos A) nd.n else pos A)=true:=by assumption
        have c0:¬ nd.op=0:=by have:decide (nd.op=0)=false:=by assumption
                              simpa using this
        have c5:¬ nd.op=5:=by have:decide (nd.op=5)=false:=by assumption
                              simpa using this
        have e:vN c.decls c.funs nd (pos X) (pos A)=true:=by
         rw [vN_eq,hh]
         simp only [g,g2,if_neg c0,if_neg c5,Bool.and_true]
        exact ⟨by rw [e];rfl,hS4,(hc1.trans (hc2.trans hc3)).trans hc4⟩
       ·intro S4 hj hS4 hc4
        refine bqr (sqr (fqr rfl ?_))
        have g:vBs c.decls c.funs nd.brs xs (pos X) (pos A)=false:=by rw [hd1];exact hj
        have e:vN c.decls c.funs nd (pos X) (pos A)=false:=by
         rw [vN_eq,hh]
         simp only [g,Bool.and_false]
        exact ⟨by rw [e];rfl,hS4,(hc1.trans (hc2.trans hc3)).trans hc4⟩
     ·refine qp rfl (qk (kc rfl (kc rfl (kc rfl (kc rfl (kc rfl kn))))) (kc rfl (kc rfl kn)) (sqn (ecT rfl (eseq (ereg (qp rfl (qp rfl (qp rfl (qp rfl (qp rfl (qp rfl (hcall rfl rfl rfl (SHas_c _ o ix ia X A (decide (nd.op=5)) nd.n hS) ?_))))))))))))
      rintro _ _ ⟨rfl,hq⟩
      obtain rfl:=hq.symm
      refine qp rfl (qk (kc rfl kn) kn (sqn (eret (sqr (fqr rfl ?_)))))
      have hv:decide (nd.op=0 ∨ nd.op=5)=true:=by simp at *;omega
      have hh0:=hh
      rw [head_var hv] at hh
      split at hh
      ·simp only [Option.some.injEq,Prod.mk.injEq] at hh
       obtain ⟨rfl,rfl⟩:=hh
       have a0:nd.args=[]:=by
        simp at h2
        first | exact h2 | exact List.eq_nil_of_length_eq_zero (by omega)
       have b0:nd.brs=[]:=by
        rw [hk] at h3
        simp at h3
        first | exact h3 | exact List.eq_nil_of_length_eq_zero (by omega)
       have e:vN c.decls c.funs nd (pos X) (pos A)=decide (0 < (if decide (nd.op=5)=true then A nd.n else X nd.n)):=by
        rw [vN_eq,hh0,a0,b0]
        simp only [vNs,vBs,Bool.and_true]
        by_cases h0:nd.op=0
        ·have h5:¬ nd.op=5:=by omega
         simp [h0,pos]
        ·have h5:nd.op=5:=by simp at hv;omega
         simp [h5,pos]
       exact ⟨by rw [e];rfl,hS,Chg.refl _⟩
      ·cases hh
    ·refine qp rfl (qs rfl rfl (by decide) (qs rfl rfl (by decide) (qs rfl rfl (by decide) (qp rfl (qk (kc rfl (kc rfl (kc rfl (kc rfl (kc rfl kn))))) (kc rfl (kc rfl kn)) (sqn (ecT rfl (eseq (ereg (qp rfl (qp rfl (qp rfl (qp rfl (qp rfl (qp rfl (hcall rfl rfl rfl (SHas_c _ o ix ia X A (decide (nd.op=5)) nd.n hS) ?_))))))))))))))))
     rintro _ _ ⟨rfl,hq⟩
     obtain rfl:=hq.symm
     refine qp rfl (qk (kc rfl kn) kn (sqn (eret (sqr (fqr rfl ?_)))))
     have hv:decide (nd.op=0 ∨ nd.op=5)=true:=by simp at *;omega
     have hh0:=hh
     rw [head_var hv] at hh
     split at hh
     ·simp only [Option.some.injEq,Prod.mk.injEq] at hh
      obtain ⟨rfl,rfl⟩:=hh
      have a0:nd.args=[]:=by
       simp at h2
       first | exact h2 | exact List.eq_nil_of_length_eq_zero (by omega)
      have b0:nd.brs=[]:=by
       rw [hk] at h3
       simp at h3
       first | exact h3 | exact List.eq_nil_of_length_eq_zero (by omega)
      have e:vN c.decls c.funs nd (pos X) (pos A)=decide (0 < (if decide (nd.op=5)=true then A nd.n else X nd.n)):=by
       rw [vN_eq,hh0,a0,b0]
       simp only [vNs,vBs,Bool.and_true]
       by_cases h0:nd.op=0
       ·have h5:¬ nd.op=5:=by omega
        simp [h0,pos]
       ·have h5:nd.op=5:=by simp at hv;omega
        simp [h5,pos]
      exact ⟨by rw [e];rfl,hS,Chg.refl _⟩
     ·cases hh
   ·refine qp rfl (qk (kc rfl (kc rfl (kc rfl (kc rfl (kc rfl kn))))) (kc rfl (kc rfl kn)) (sqn (ecT rfl (eseq (ereg (qp rfl (qk (kc rfl kn) kn (sqn (eret (sqr (fqr rfl ?_)))))))))))
    first
    | (have e:=hA.none (by assumption)
       exact ⟨by rw [vN_eq,e];rfl,hS,Chg.refl _⟩)
    | (obtain ⟨want,xs,hh,hw,hk⟩:=hA.some (by assumption)
       have e:vN c.decls c.funs nd (pos X) (pos A)=false:=by
        rw [vN_eq,hh]
        simp only
        rw [Bool.eq_false_iff]
        intro h
        simp only [Bool.and_eq_true] at h
        have l1:=vNs_len h.1.2
        have l2:=vBs_len h.2
        subst hw
        simp at *
        omega
       exact ⟨by rw [e];rfl,hS,Chg.refl _⟩)
  ·refine qp rfl (qp rfl (qs rfl rfl (by decide) (qs rfl rfl (by decide) (qs rfl rfl (by decide) (qs rfl rfl (by decide) (qs rfl rfl (by decide) (qp rfl (qk (kc rfl (kc rfl (kc rfl (kc rfl (kc rfl kn))))) (kc rfl (kc rfl kn)) (sqn (ecT rfl (eseq (ereg (qp rfl (qk (kc rfl kn) kn (sqn (eret (sqr (fqr rfl ?_))))))))))))))))))
   first
   | (have e:=hA.none (by assumption)
      exact ⟨by rw [vN_eq,e];rfl,hS,Chg.refl _⟩)
   | (obtain ⟨want,xs,hh,hw,hk⟩:=hA.some (by assumption)
      have e:vN c.decls c.funs nd (pos X) (pos A)=false:=by
       rw [vN_eq,hh]
       simp only
       rw [Bool.eq_false_iff]
       intro h
       simp only [Bool.and_eq_true] at h
       have l1:=vNs_len h.1.2
       have l2:=vBs_len h.2
       subst hw
       simp at *
       omega
      exact ⟨by rw [e];rfl,hS,Chg.refl _⟩)
theorem Valid_c (c:Core) (hc:CoreSz c) (a:Node) (hz:a.sz ≤ 2 ^ 40):ValidC c a:=by
 induction a using Node.ind with
 | h a ih1 ih2 =>
   exact Valid_c0 c hc a hz (fun b hb=>ih1 b hb (by have:=Node.sz_arg hb;omega)) (fun b hb=>ih2 b hb (by have:=Node.sz_br hb;have:=b.sz_body;omega))
end Go.Sim.Kd
namespace Go.Sim.Kd
open Go Go.Sim
def addAll (X:Int → Int):List Int → (Int → Int)
 | []=>X
 | v :: vs=>addAll (addK X v 1) vs
theorem addAll_bn:∀ (l:List Int) {X:Int → Int} {k:Int},Bn X k → Bn (addAll X l) (k + l.length)
 | [],X,k,h=>h.le (by simp)
 | v :: vs,X,k,h=>(addAll_bn vs h.add).le (by simp;omega)
theorem addAll_pos:∀ (l:List Int) {X:Int → Int} {k:Int},Bn X k → ∀ n,pos (addAll X l) n=(pos X n || l.any fun v=>decide (n=v))
 | [],X,k,h,n=>by simp [addAll]
 | v :: vs,X,k,h,n=>by
   rw [addAll,addAll_pos vs h.add n,pos_add h]
   simp only [addV,List.any_cons]
   cases decide (n=v) <;> simp
theorem NS_l1 {o ix ia:Nat} (l:List Int) (X A:Int → Int) (i:Nat) (hi:i ≤ l.length) (hs:l.length ≤ 2 ^ 40) {x1:AV} {n:Nat} {v:Nat → Bool} {D:List (Nat × List AV)} {S:Sg} {Q:Ex → Fr → Prop}
 (hS:SC o ix ia X A S) (hB:Bn X (2 ^ 45 + i)) (hX:∀ j S',SC o ix ia (addAll X (l.drop i)) A S' → Chg (IXA ix ia) S S' → Q (.exit 0) ⟨upd (upd (upd (upd (upd (upd ((fun _=>none)) 17 (some (.val (B false)))) 16 (some (.val (I j)))) 15 (some (.val (I (l.map I).length)))) 14 (some (.val (.slice .none 1 (l.map I))))) 5 (some (.val (.ptr o 0)))) 1 (some (.val x1)),(fun _=>none),n,v,D,S'⟩):EX (callL p) (.loop F49_l1) ⟨upd (upd (upd (upd (upd ((fun _=>none)) 16 (some (.val (I i)))) 15 (some (.val (I (l.map I).length)))) 14 (some (.val (.slice .none 1 (l.map I))))) 5 (some (.val (.ptr o 0)))) 1 (some (.val x1)),(fun _=>none),n,v,D,S⟩ Q:=by
 refine eloop (eseq (ereg (qp rfl (qb ?_))))
 rintro (_ | _) h1
 ·refine qk (kc rfl (kc rfl (kc rfl (kc rfl (kc rfl (kc rfl kn)))))) kn (sqn (eseq (ecF rfl (eexit (sqx ?_)))))
  exact hX _ _ (by rw [List.drop_eq_nil_of_le (by simp at h1 ⊢;omega)];exact hS) (Chg.refl _)
 ·refine qk (kc rfl (kc rfl (kc rfl (kc rfl (kc rfl (kc rfl kn)))))) kn (sqn (eseq (ecT rfl (eskip (sqn (eseq (eblock (eseq (ereg ?_)))))))))
  have hlt:i < l.length:=by simpa using h1
  obtain ⟨a,ha⟩:=get_of_lt hlt
  have hd:=drop_cons ha
  refine hia (y:=I a) rfl rfl (by omega) (by simp [ha]) rfl (qp rfl (qp rfl (qk (kc rfl (kc rfl (kc rfl (kc rfl (kc rfl (kc rfl kn)))))) kn (sqn (ereg ?_)))))
  obtain ⟨cx,hx1,hx2⟩:=hS.hx
  have hb1:=hB a
  have hb2:=hx2 a
  refine qp rfl (qp rfl (qp rfl (hldo rfl hS.ho rfl ?_)))
  refine qp rfl (hlk rfl rfl rfl hx1 ?_)
  rw [cntM_get]
  refine hadd rfl rfl (i64w (by omega)) (hmu rfl rfl rfl rfl hx1 ?_)
  refine qk (kc rfl (kc rfl (kc rfl (kc rfl (kc rfl kn))))) kn (bqn (sqn (ereg (hadd rfl rfl (i64w (by omega)) (qp rfl (qk (kc rfl (kc rfl (kc rfl (kc rfl (kc rfl kn))))) kn ?_))))))
  have hS1:=hS.setx hx2 a 1
  have hc1:Chg (IXA ix ia) S _:=(Chg.refl S).set (i:=ix) (o:=.map (.int .i64) (mset (cntM cx) (.int .i64 a) (some (I ((cx a).getD 0 + 1))))) fun _=>.inl rfl
  exact NS_l1 l _ A (i + 1) (by omega) hs hS1 (hB.add.le (by omega)) (fun j S2 h c=>hX j S2 (by rw [hd];exact h) (hc1.trans c))
termination_by l.length - i
decreasing_by all_goals omega
theorem NS_l2 {o ix ia:Nat} (l:List Int) (X A:Int → Int) (i:Nat) (hi:i ≤ l.length) (hs:l.length ≤ 2 ^ 40) {n:Nat} {v:Nat → Bool} {D:List (Nat × List AV)} {S:Sg} {Q:Ex → Fr → Prop}
 (hS:SC o ix ia X A S) (hB:Bn A (2 ^ 45 + i)) (hX:∀ j S',SC o ix ia X (addAll A (l.drop i)) S' → Chg (IXA ix ia) S S' → Q (.exit 2) ⟨upd (upd (upd (upd (upd ((fun _=>none)) 31 (some (.val (B false)))) 30 (some (.val (I j)))) 29 (some (.val (I (l.map I).length)))) 28 (some (.val (.slice .none 1 (l.map I))))) 5 (some (.val (.ptr o 0))),(fun _=>none),n,v,D,S'⟩):EX (callL p) (.loop F49_l2) ⟨upd (upd (upd (upd ((fun _=>none)) 30 (some (.val (I i)))) 29 (some (.val (I (l.map I).length)))) 28 (some (.val (.slice .none 1 (l.map I))))) 5 (some (.val (.ptr o 0))),(fun _=>none),n,v,D,S⟩ Q:=by
 refine eloop (eseq (ereg (qp rfl (qb ?_))))
 rintro (_ | _) h1
 ·refine qk (kc rfl (kc rfl (kc rfl (kc rfl (kc rfl kn))))) kn (sqn (eseq (ecF rfl (eexit (sqx ?_)))))
  exact hX _ _ (by rw [List.drop_eq_nil_of_le (by simp at h1 ⊢;omega)];exact hS) (Chg.refl _)
 ·refine qk (kc rfl (kc rfl (kc rfl (kc rfl (kc rfl kn))))) kn (sqn (eseq (ecT rfl (eskip (sqn (eseq (eblock (eseq (ereg ?_)))))))))
  have hlt:i < l.length:=by simpa using h1
  obtain ⟨a,ha⟩:=get_of_lt hlt
  have hd:=drop_cons ha
  refine hia (y:=I a) rfl rfl (by omega) (by simp [ha]) rfl (qp rfl (qp rfl (qk (kc rfl (kc rfl (kc rfl (kc rfl (kc rfl kn))))) kn (sqn (ereg ?_)))))
  obtain ⟨cx,hx1,hx2⟩:=hS.ha
  have hb1:=hB a
  have hb2:=hx2 a
  refine qp rfl (qp rfl (qp rfl (hldo rfl hS.ho rfl ?_)))
  refine qp rfl (hlk rfl rfl rfl hx1 ?_)
  rw [cntM_get]
  refine hadd rfl rfl (i64w (by omega)) (hmu rfl rfl rfl rfl hx1 ?_)
  refine qk (kc rfl (kc rfl (kc rfl (kc rfl kn)))) kn (bqn (sqn (ereg (hadd rfl rfl (i64w (by omega)) (qp rfl (qk (kc rfl (kc rfl (kc rfl (kc rfl kn)))) kn ?_))))))
  have hS1:=hS.seta hx2 a 1
  have hc1:Chg (IXA ix ia) S _:=(Chg.refl S).set (i:=ia) (o:=.map (.int .i64) (mset (cntM cx) (.int .i64 a) (some (I ((cx a).getD 0 + 1))))) fun _=>.inr rfl
  exact NS_l2 l X _ (i + 1) (by omega) hs hS1 (hB.add.le (by omega)) (fun j S2 h c=>hX j S2 (by rw [hd];exact h) (hc1.trans c))
termination_by l.length - i
decreasing_by all_goals omega
theorem sc_init (s:Sg):let S2:=(s.new (.map (.int .i64) fun _=>none)).new (.map (.int .i64) fun _=>none)
 SC S2.nx s.nx (s.nx + 1) (fun _=>0) (fun _=>0) (S2.new (.row [.map s.nx,.map (s.nx + 1)])) ∧ Chg (fun _=>False) s (S2.new (.row [.map s.nx,.map (s.nx + 1)])):=by
 have e:cntM (fun _=>none)=fun _=>none:=by
  funext k
  cases k <;> try rfl
  rename_i kd n
  cases kd <;> rfl
 refine ⟨⟨new_ob,⟨fun _=>none,?_,fun _=>rfl⟩,⟨fun _=>none,?_,fun _=>rfl⟩,?_,?_,?_,?_,?_,?_⟩,Chg.new (Chg.new (Chg.new (Chg.refl s)))⟩
 ·rw [e,new_lt (by simp only [Sg.new];omega),new_lt (by simp only [Sg.new];omega)];exact new_ob
 ·rw [e,new_lt (by simp only [Sg.new];omega)];exact new_ob
 all_goals first | (simp only [Sg.new];omega) | omega
theorem NewScope_c (s:Sg) (xs ys:List Int) (h1:xs.length ≤ 2 ^ 40) (h2:ys.length ≤ 2 ^ 40):HC p N49_ [ints xs,ints ys] s (fun r s'=>∃ o ix ia,r=[.ptr o 0] ∧ SC o ix ia (addAll (fun _=>0) xs) (addAll (fun _=>0) ys) s' ∧ Ext s s' ∧ s.nx ≤ ix ∧ s.nx ≤ ia ∧ s.nx ≤ o):=by
 refine hcf rfl f49_ rfl ?_
 simp only [chainOf]
 refine eseq (ereg (qp rfl (qk (kc rfl (kc rfl kn)) kn (sqn (eseq (ereg (hmkm (hmkm (hbuild rfl rfl (lc rfl (lc rfl (ln rfl))) (hboxo rfl (lc rfl (lc rfl (ln rfl))) (qp rfl (qk (kc rfl (kc rfl (kc rfl kn))) kn (sqn (eseq (eseq (ereg (qp rfl (qp rfl (qp rfl (qk (kc rfl (kc rfl (kc rfl (kc rfl (kc rfl kn))))) kn (sqn (eblock (NS_l1 xs _ _ 0 (by omega) h1 (sc_init s).1 (fun n=>by omega) ?_)))))))))))))))))))))))
 ·intro j S1 hS1 hc1
  refine bqx (sqn (eseq (eseq (ereg (qp rfl (qp rfl (qp rfl (qk (kc rfl (kc rfl (kc rfl (kc rfl kn)))) kn (sqn (eblock (NS_l2 ys _ _ 0 (by omega) h2 hS1 (fun n=>by omega) ?_)))))))))))
  ·intro q S2 hS2 hc2
   refine bqx (sqn (eseq (ereg (qp rfl (qp rfl (qk (kc rfl kn) kn (sqn (eret (fqr rfl ?_)))))))))
   simp only [List.drop_zero] at hS2
   exact ⟨_,_,_,rfl,hS2,(((sc_init s).2.mono fun _ _ h=>h.elim).trans (hc1.trans hc2)).ext fun i h=>by rcases h with h | h <;> omega,Nat.le_refl _,by omega,by simp only [Sg.new];omega⟩
end Go.Sim.Kd
namespace Go.Sim.Kd
open Go Go.Sim
structure Two (o2 o3:Own) (v:Nat → Bool) (n:Nat):Prop where
 c2:Can o2 v
 c3:Can o3 v
 l2:∀ t,o2=.tip t → t < n
 l3:∀ t,o3=.tip t → t < n
 ne:∀ t,o2=.tip t → o3 ≠ .tip t
theorem canKeep {o:Own} {v v':Nat → Bool} (h:Can o v) (k:∀ t,o=.tip t → v' t=v t):Can o v':=by
 cases o with
 | none=>exact h
 | full=>trivial
 | tip t=>exact (k t rfl).trans h
 | gt g=>exact h
theorem Two.step2 {o2 o3:Own} {v v':Nat → Bool} {n:Nat} (h:Two o2 o3 v n) (c:Can (.tip n) v') (k:∀ t,t ≠ n → o2 ≠ .tip t → v' t=v t):Two (.tip n) o3 v' (n + 1) :=
 ⟨c,canKeep h.c3 fun t e=>k t (by have:=h.l3 t e;omega) fun e'=>h.ne t e' e,fun t e=>by cases e;omega,fun t e=>by have:=h.l3 t e;omega,fun t e e'=>by cases e;have:=h.l3 _ e';omega⟩
theorem Two.step3 {o2 o3:Own} {v v':Nat → Bool} {n:Nat} (h:Two o2 o3 v n) (c:Can (.tip n) v') (k:∀ t,t ≠ n → o3 ≠ .tip t → v' t=v t):Two o2 (.tip n) v' (n + 1) :=
 ⟨canKeep h.c2 fun t e=>k t (by have:=h.l2 t e;omega) fun e'=>h.ne t e e',c,fun t e=>by have:=h.l2 t e;omega,fun t e=>by cases e;omega,fun t e e'=>by cases e';have:=h.l2 _ e;omega⟩
def parOf (co:Bool) (l:List (Arg × Int)):List Int:=(l.filter fun q=>q.1.co == co).map (·.2)
theorem parOf_add {co:Bool} {l:List (Arg × Int)} {q:Arg × Int}:parOf co (l ++ [q])=parOf co l ++ (if q.1.co=co then [q.2] else []):=by
 unfold parOf
 rw [List.filter_append,List.map_append]
 congr 1
 by_cases h:q.1.co=co <;> simp [h]
theorem zipA_at {ps:List Arg} {vs:List Int} {i:Nat} {x:Arg} {c:Int} (h:ps[i]?=some x) (k:vs[i]?=some c):(ps.zip vs)[i]?=some (x,c):=by simp [List.getElem?_zip_eq_some,h,k]
theorem parOf_len {co:Bool} (l:List (Arg × Int)):(parOf co l).length ≤ l.length:=by
 unfold parOf
 rw [List.length_map]
 exact List.length_filter_le ..
theorem Params_l (ps:List Arg) (vs:List Int) {x10 y3 y4 y5 y6 y7:AV} (o2 o3:Own) (hlen:ps.length=vs.length) (hz:vs.length ≤ 2 ^ 30) (i:Nat) (hi:i ≤ ps.length) (hs:ps.length ≤ 2 ^ 40) {n:Nat} {v:Nat → Bool} {D:List (Nat × List AV)} {S:Sg} {Q:Ex → Fr → Prop}
 (hT:Two o2 o3 v n) (hX:∀ j o2' o3' n' v',Q (.exit 0) ⟨upd (upd (upd (upd (upd (upd (upd ((fun _=>none)) 10 (some (.val (B false)))) 9 (some (.val (I j)))) 8 (some (.val (I (ps.map Arg.enc).length)))) 7 (some (.val (.slice .none 2 (ps.map Arg.enc))))) 3 (some (.val (.slice o3' 1 ((parOf true (ps.zip vs)).map I))))) 2 (some (.val (.slice o2' 1 ((parOf false (ps.zip vs)).map I))))) 1 (some (.loc 1 0)),upd ((fun _=>none)) 1 (some ([x10,encArgs ps,ints vs,y3,y4,y5,y6,y7])),n',v',D,S⟩):EX (callL p) (.loop F50_l1) ⟨upd (upd (upd (upd (upd (upd ((fun _=>none)) 9 (some (.val (I i)))) 8 (some (.val (I (ps.map Arg.enc).length)))) 7 (some (.val (.slice .none 2 (ps.map Arg.enc))))) 3 (some (.val (.slice o3 1 ((parOf true ((ps.zip vs).take i)).map I))))) 2 (some (.val (.slice o2 1 ((parOf false ((ps.zip vs).take i)).map I))))) 1 (some (.loc 1 0)),upd ((fun _=>none)) 1 (some ([x10,encArgs ps,ints vs,y3,y4,y5,y6,y7])),n,v,D,S⟩ Q:=by
 refine eloop (eseq (ereg (qp rfl (qb ?_))))
 rintro (_ | _) h1
 ·refine qk (kc rfl (kc rfl (kc rfl (kc rfl (kc rfl (kc rfl (kc rfl kn))))))) (kc rfl kn) (sqn (eseq (ecF rfl (eexit (sqx ?_)))))
  have he:(ps.zip vs).take i=ps.zip vs:=List.take_of_length_le (by simp at *;omega)
  rw [he]
  exact hX _ _ _ _ _
 ·refine qk (kc rfl (kc rfl (kc rfl (kc rfl (kc rfl (kc rfl (kc rfl kn))))))) (kc rfl kn) (sqn (eseq (ecT rfl (eskip (sqn (eseq (eblock (eseq (ereg (qp rfl ?_))))))))))
  have hlt:i < ps.length:=by simpa using h1
  obtain ⟨a,ha⟩:=get_of_lt hlt
  have hd:=drop_cons ha
  refine hia (y:=Arg.enc a) rfl rfl (by omega) (by simp [ha]) rfl (hlda rfl rfl (lc rfl (lc rfl (ln rfl))) (hal (dc (dc (dc (dc (dc (dc (dc (dc (dc (dc dn rfl) rfl) rfl) rfl) rfl) rfl) rfl) rfl) rfl) rfl) (qp rfl (hstl rfl rfl rfl rfl (Nat.le_of_ble_eq_true rfl) (lc rfl (lc rfl (ln rfl))) (qk (kc rfl (kc rfl (kc rfl (kc rfl (kc rfl (kc rfl (kc rfl (kc rfl kn)))))))) (kc rfl (kc rfl kn)) (sqn (eseq (ereg (qp rfl (qp rfl (qb ?_)))))))))))
  rintro (_ | _) h2
  ·refine qk (kc rfl (kc rfl (kc rfl (kc rfl (kc rfl (kc rfl (kc rfl (kc rfl kn)))))))) (kc rfl kn) (sqn (ecF rfl (ereg (qp rfl (qp rfl (qp rfl (qp rfl ?_)))))))
   obtain ⟨w,hw⟩:=get_of_lt (l:=vs) (i:=i) (by omega)
   have ht:(ps.zip vs).take (i + 1)=(ps.zip vs).take i ++ [(a,w)]:=by simp [List.take_add_one,zipA_at ha hw]
   refine hia (y:=I w) rfl rfl (by omega) (by simp [hw]) rfl (qp rfl (hbsl rfl rfl (lc rfl (ln rfl)) (hapC rfl rfl hT.c2 (by simp) (by simp;have:=parOf_len (co:=false) ((ps.zip vs).take i);simp at this;omega) (r:=(parOf false ((ps.zip vs).take (i + 1))).map I) (by rw [ht,parOf_add,if_pos (by assumption)];simp [AV.er]) ?_)))
   intro v1 hc1 hv1
   have hT1:=hT.step2 hc1 hv1
   refine qp rfl (qk (kc rfl (kc rfl (kc rfl (kc rfl (kc rfl (kc rfl kn)))))) (kc rfl kn) (bqn (sqn (ereg (hadd rfl rfl (i64w (by omega)) (qp rfl (qk (kc rfl (kc rfl (kc rfl (kc rfl (kc rfl (kc rfl kn)))))) (kc rfl kn) ?_)))))))
   first
   | (have hco:a.co=true:=by assumption
      have e:parOf false ((ps.zip vs).take i)=parOf false ((ps.zip vs).take (i + 1)):=by rw [ht,parOf_add,if_neg (by show ¬ a.co=false;rw [hco];simp)];simp
      rw [e]
      exact Params_l ps vs o2 _ hlen hz (i + 1) (by omega) hs hT1 hX)
   | (have hco:a.co=false:=by assumption
      have e:parOf true ((ps.zip vs).take i)=parOf true ((ps.zip vs).take (i + 1)):=by rw [ht,parOf_add,if_neg (by show ¬ a.co=true;rw [hco];simp)];simp
      rw [e]
      exact Params_l ps vs _ o3 hlen hz (i + 1) (by omega) hs hT1 hX)
  ·refine qk (kc rfl (kc rfl (kc rfl (kc rfl (kc rfl (kc rfl (kc rfl (kc rfl kn)))))))) (kc rfl kn) (sqn (ecT rfl (ereg (qp rfl (qp rfl (qp rfl (qp rfl ?_)))))))
   obtain ⟨w,hw⟩:=get_of_lt (l:=vs) (i:=i) (by omega)
   have ht:(ps.zip vs).take (i + 1)=(ps.zip vs).take i ++ [(a,w)]:=by simp [List.take_add_one,zipA_at ha hw]
   refine hia (y:=I w) rfl rfl (by omega) (by simp [hw]) rfl (qp rfl (hbsl rfl rfl (lc rfl (ln rfl)) (hapC rfl rfl hT.c3 (by simp) (by simp;have:=parOf_len (co:=true) ((ps.zip vs).take i);simp at this;omega) (r:=(parOf true ((ps.zip vs).take (i + 1))).map I) (by rw [ht,parOf_add,if_pos (by assumption)];simp [AV.er]) ?_)))
   intro v1 hc1 hv1
   have hT1:=hT.step3 hc1 hv1
   refine qp rfl (qk (kc rfl (kc rfl (kc rfl (kc rfl (kc rfl (kc rfl kn)))))) (kc rfl kn) (bqn (sqn (ereg (hadd rfl rfl (i64w (by omega)) (qp rfl (qk (kc rfl (kc rfl (kc rfl (kc rfl (kc rfl (kc rfl kn)))))) (kc rfl kn) ?_)))))))
   first
   | (have hco:a.co=true:=by assumption
      have e:parOf false ((ps.zip vs).take i)=parOf false ((ps.zip vs).take (i + 1)):=by rw [ht,parOf_add,if_neg (by show ¬ a.co=false;rw [hco];simp)];simp
      rw [e]
      exact Params_l ps vs o2 _ hlen hz (i + 1) (by omega) hs hT1 hX)
   | (have hco:a.co=false:=by assumption
      have e:parOf true ((ps.zip vs).take i)=parOf true ((ps.zip vs).take (i + 1)):=by rw [ht,parOf_add,if_neg (by show ¬ a.co=true;rw [hco];simp)];simp
      rw [e]
      exact Params_l ps vs _ o3 hlen hz (i + 1) (by omega) hs hT1 hX)
termination_by ps.length - i
decreasing_by all_goals omega
theorem Params_c (s:Sg) (g:CFun) (hlen:g.params.length=g.vars.length) (hz:g.vars.length ≤ 2 ^ 30):HC p N50_ [.agg (Str g.name :: encArgs g.params :: ints g.vars :: g.body.cs)] s (fun r s'=>r=[ints (parOf false (g.params.zip g.vars)),ints (parOf true (g.params.zip g.vars))] ∧ s'=s):=by
 refine hcf rfl f50_ rfl ?_
 simp only [chainOf]
 refine eseq (ereg (hbox (dc dn rfl) rfl (lc rfl (lc rfl (lc rfl (lc rfl (lc rfl (lc rfl (lc rfl (lc rfl (ln rfl))))))))) (qp rfl (qp rfl (qk (kc rfl (kc rfl (kc rfl kn))) (kc rfl kn) (sqn (eseq (eseq (ereg (qp rfl (qp rfl (qp rfl (qp rfl (qk (kc rfl (kc rfl (kc rfl (kc rfl (kc rfl (kc rfl kn)))))) (kc rfl kn) (sqn (eblock (Params_l g.params g.vars .full .full hlen (by omega) 0 (by omega) (by omega) ⟨trivial,trivial,fun t e=>by (cases e),fun t e=>by (cases e),fun t e=>by (cases e)⟩ ?_)))))))))))))))))
 ·intro j o2 o3 n' v'
  refine bqx (sqn (eseq (ereg (qp rfl (qp rfl (qp rfl (qp rfl (qk (kc rfl (kc rfl kn)) kn (sqn (eret (fqr rfl ?_)))))))))))
  exact ⟨rfl,rfl⟩
def parOk (N i:Nat) (a:Arg):Bool:=decide (0 ≤ a.ty) && decide (a.ty ≤ N) && !(decide (i=0) && (a.co || decide (a.ty ≠ 0)))
def funOk (N i:Nat) (names:List ByteArray) (g:CFun):Bool:=nameOk g.name && decide (g.params.length ≤ 6) && decide (g.vars.length=g.params.length) && distinctOk [] (g.vars.zip (g.params.map fun (q:Arg)=>q.co)) &&
 !(names.any fun y=>decide (g.name=y)) && g.params.all (parOk N i)
def funsOk (N:Nat):Nat → List ByteArray → List CFun → Bool
 | _,_,[]=>true
 | i,names,g :: gs=>funOk N i names g && funsOk N (i + 1) (names ++ [g.name]) gs
def headsOk (c:Core):Bool:=decide (1 ≤ c.funs.length) && decide (c.funs.length ≤ 12) && funsOk c.decls.length 0 [] c.funs
theorem heads_l3 {al:List CFun} (c:Core) (k:Nat) (l:List Arg) (i:Nat) (hi:i ≤ l.length) (hs:l.length ≤ 2 ^ 40) {x20 x21 x22:AV} {n:Nat} {v:Nat → Bool} {D:List (Nat × List AV)} {S:Sg} {Q:Ex → Fr → Prop}
 (hX:∀ j,(l.drop i).all (parOk c.decls.length k)=true → Q (.exit 4) ⟨upd (upd (upd (upd (upd (upd (upd (upd (upd ((fun _=>none)) 74 (some (.val (B false)))) 73 (some (.val (I j)))) 72 (some (.val (I (l.map Arg.enc).length)))) 71 (some (.val (.slice .none 2 (l.map Arg.enc))))) 22 (some (.val x22))) 21 (some (.val x21))) 20 (some (.val x20))) 3 (some (.val (I k)))) 1 (some (.loc 1 0)),upd ((fun _=>none)) 1 (some ([SL 3 (c.decls.map Decl.enc),SL 8 (al.map CFun.enc)])),n,v,D,S⟩) (hR:(l.drop i).all (parOk c.decls.length k)=false → Q .ret ⟨upd ((fun _=>none)) 2 (some (.val (B false))),(fun _=>none),n,v,D,S⟩):EX (callL p) (.loop F47_l3) ⟨upd (upd (upd (upd (upd (upd (upd (upd ((fun _=>none)) 73 (some (.val (I i)))) 72 (some (.val (I (l.map Arg.enc).length)))) 71 (some (.val (.slice .none 2 (l.map Arg.enc))))) 22 (some (.val x22))) 21 (some (.val x21))) 20 (some (.val x20))) 3 (some (.val (I k)))) 1 (some (.loc 1 0)),upd ((fun _=>none)) 1 (some ([SL 3 (c.decls.map Decl.enc),SL 8 (al.map CFun.enc)])),n,v,D,S⟩ Q:=by
 refine eloop (eseq (ereg (qp rfl (qb ?_))))
 rintro (_ | _) h1
 ·refine qk (kc rfl (kc rfl (kc rfl (kc rfl (kc rfl (kc rfl (kc rfl (kc rfl (kc rfl kn))))))))) (kc rfl kn) (sqn (eseq (ecF rfl (eexit (sqx ?_)))))
  exact hX _ (by rw [List.drop_eq_nil_of_le (by simp at h1 ⊢;omega)];rfl)
 ·refine qk (kc rfl (kc rfl (kc rfl (kc rfl (kc rfl (kc rfl (kc rfl (kc rfl (kc rfl kn))))))))) (kc rfl kn) (sqn (eseq (ecT rfl (eskip (sqn (eseq (eblock (eseq (ereg ?_)))))))))
  have hlt:i < l.length:=by simpa using h1
  obtain ⟨a,ha⟩:=get_of_lt hlt
  have hd:=drop_cons ha
  refine hia (y:=Arg.enc a) rfl rfl (by omega) (by simp [ha]) rfl (hlda rfl rfl (lc rfl (lc rfl (ln rfl))) (hal (dc (dc (dc (dc (dc (dc (dc (dc (dc (dc (dc dn rfl) rfl) rfl) rfl) rfl) rfl) rfl) rfl) rfl) rfl) rfl) (hstl rfl rfl rfl rfl (Nat.le_of_ble_eq_true rfl) (lc rfl (lc rfl (ln rfl))) (qk (kc rfl (kc rfl (kc rfl (kc rfl (kc rfl (kc rfl (kc rfl (kc rfl (kc rfl kn))))))))) (kc rfl (kc rfl kn)) (sqn (eseq (ereg (qp rfl (qp rfl (qp rfl (qb ?_)))))))))))
  rintro (_ | _) h2
  ·refine qp rfl (qg rfl (qp rfl (qg rfl (qp rfl (qg rfl (qp rfl (qg rfl (qp rfl (qg rfl (qp rfl (qg rfl (qp rfl (qb ?_)))))))))))))
   rintro (_ | _) h3
   ·refine qp rfl (qp rfl (qg rfl (qp rfl (qg rfl (qp rfl (qb ?_))))))
    rintro (_ | _) h4
    ·refine qg rfl (qp rfl (qs rfl rfl (by decide) (qs rfl rfl (by decide) (qs rfl rfl (by decide) (qs rfl rfl (by decide) (qs rfl rfl (by decide) (qs rfl rfl (by decide) (qs rfl rfl (by decide) (qg rfl (qp rfl (qp rfl (qk (kc rfl (kc rfl (kc rfl (kc rfl (kc rfl (kc rfl (kc rfl (kc rfl (kc rfl kn))))))))) (kc rfl kn) (sqn (ecF rfl (eskip (bqn (sqn (ereg (hadd rfl rfl (i64w (by omega)) (qp rfl (qk (kc rfl (kc rfl (kc rfl (kc rfl (kc rfl (kc rfl (kc rfl (kc rfl kn)))))))) (kc rfl kn) ?_)))))))))))))))))))))
     have e:parOk c.decls.length k a=true:=by
      clear hX hR
      simp_all [parOk] <;> omega
     exact heads_l3 c k l (i + 1) (by omega) hs (fun j h=>hX j (by rw [hd,List.all_cons,e,h];rfl)) (fun h=>hR (by rw [hd,List.all_cons,h,Bool.and_false]))
    ·refine qg rfl (qp rfl (qg rfl (qp rfl (qg rfl (qp rfl (qb ?_))))))
     rintro (_ | _) h5
     ·refine qg rfl (qp rfl (qg rfl (qp rfl (qg rfl (qp rfl (qg rfl (qp rfl (qb ?_))))))))
      rintro (_ | _) h6
      ·refine qg rfl (qp rfl (qg rfl (qp rfl (qp rfl (qk (kc rfl (kc rfl (kc rfl (kc rfl (kc rfl (kc rfl (kc rfl (kc rfl (kc rfl kn))))))))) (kc rfl kn) (sqn (ecF rfl (eskip (bqn (sqn (ereg (hadd rfl rfl (i64w (by omega)) (qp rfl (qk (kc rfl (kc rfl (kc rfl (kc rfl (kc rfl (kc rfl (kc rfl (kc rfl kn)))))))) (kc rfl kn) ?_))))))))))))))
       have e:parOk c.decls.length k a=true:=by
        clear hX hR
        simp_all [parOk] <;> omega
       exact heads_l3 c k l (i + 1) (by omega) hs (fun j h=>hX j (by rw [hd,List.all_cons,e,h];rfl)) (fun h=>hR (by rw [hd,List.all_cons,h,Bool.and_false]))
      ·refine qg rfl (qp rfl (qg rfl (qp rfl (qp rfl (qk (kc rfl (kc rfl (kc rfl (kc rfl (kc rfl (kc rfl (kc rfl (kc rfl (kc rfl kn))))))))) (kc rfl kn) (sqn (ecT rfl (eseq (ereg (qp rfl (qk (kc rfl kn) kn (sqn (eret (bqr (sqr ?_)))))))))))))))
       have e:parOk c.decls.length k a=false:=by
        clear hX hR
        simp_all [parOk] <;> omega
       exact hR (by rw [hd,List.all_cons,e,Bool.false_and])
     ·refine qg rfl (qp rfl (qs rfl rfl (by decide) (qs rfl rfl (by decide) (qs rfl rfl (by decide) (qg rfl (qp rfl (qg rfl (qp rfl (qp rfl (qk (kc rfl (kc rfl (kc rfl (kc rfl (kc rfl (kc rfl (kc rfl (kc rfl (kc rfl kn))))))))) (kc rfl kn) (sqn (ecT rfl (eseq (ereg (qp rfl (qk (kc rfl kn) kn (sqn (eret (bqr (sqr ?_))))))))))))))))))))
      have e:parOk c.decls.length k a=false:=by
       clear hX hR
       simp_all [parOk] <;> omega
      exact hR (by rw [hd,List.all_cons,e,Bool.false_and])
   ·refine qp rfl (qp rfl (qs rfl rfl (by decide) (qs rfl rfl (by decide) (qs rfl rfl (by decide) (qs rfl rfl (by decide) (qs rfl rfl (by decide) (qs rfl rfl (by decide) (qs rfl rfl (by decide) (qs rfl rfl (by decide) (qs rfl rfl (by decide) (qs rfl rfl (by decide) (qs rfl rfl (by decide) (qp rfl (qk (kc rfl (kc rfl (kc rfl (kc rfl (kc rfl (kc rfl (kc rfl (kc rfl (kc rfl kn))))))))) (kc rfl kn) (sqn (ecT rfl (eseq (ereg (qp rfl (qk (kc rfl kn) kn (sqn (eret (bqr ?_)))))))))))))))))))))))
    refine sqr ?_
    have e:parOk c.decls.length k a=false:=by
     clear hX hR
     simp_all [parOk] <;> omega
    exact hR (by rw [hd,List.all_cons,e,Bool.false_and])
  ·refine qp rfl (qs rfl rfl (by decide) (qs rfl rfl (by decide) (qs rfl rfl (by decide) (qs rfl rfl (by decide) (qs rfl rfl (by decide) (qs rfl rfl (by decide) (qp rfl (qp rfl (qs rfl rfl (by decide) (qs rfl rfl (by decide) (qs rfl rfl (by decide) (qs rfl rfl (by decide) (qs rfl rfl (by decide) (qs rfl rfl (by decide) (qs rfl rfl (by decide) (qs rfl rfl (by decide) (qs rfl rfl (by decide) (qs rfl rfl (by decide) (qs rfl rfl (by decide) (qp rfl (qk (kc rfl (kc rfl (kc rfl (kc rfl (kc rfl (kc rfl (kc rfl (kc rfl (kc rfl kn))))))))) (kc rfl kn) (sqn (ecT rfl ?_)))))))))))))))))))))))
   refine eseq (ereg (qp rfl (qk (kc rfl kn) kn (sqn (eret (bqr (sqr ?_)))))))
   have e:parOk c.decls.length k a=false:=by
    clear hX hR
    simp_all [parOk] <;> omega
   exact hR (by rw [hd,List.all_cons,e,Bool.false_and])
termination_by l.length - i
decreasing_by all_goals omega
theorem heads_l2 {al:List CFun} (c:Core) (g:CFun) (l:List CFun) (i:Nat) (hi:i ≤ l.length) (hs:l.length ≤ 2 ^ 40) {x3 x20 x21 x22:AV} {n:Nat} {v:Nat → Bool} {D:List (Nat × List AV)} {S:Sg} {Q:Ex → Fr → Prop}
 (hX:∀ j,(((l.drop i).map CFun.name).any fun y=>decide (g.name=y))=false → Q (.exit 2) ⟨upd (upd (upd (upd (upd (upd (upd (upd (upd (upd ((fun _=>none)) 61 (some (.val (B false)))) 60 (some (.val (I j)))) 59 (some (.val (I (l.map CFun.enc).length)))) 58 (some (.val (.slice .none 8 (l.map CFun.enc))))) 22 (some (.val x22))) 21 (some (.val x21))) 20 (some (.val x20))) 4 (some (.loc 4 0))) 3 (some (.val x3))) 1 (some (.loc 1 0)),upd (upd ((fun _=>none)) 4 (some ((Str g.name :: encArgs g.params :: ints g.vars :: g.body.cs)))) 1 (some ([SL 3 (c.decls.map Decl.enc),SL 8 (al.map CFun.enc)])),n,v,D,S⟩) (hR:(((l.drop i).map CFun.name).any fun y=>decide (g.name=y))=true → Q .ret ⟨upd ((fun _=>none)) 2 (some (.val (B false))),(fun _=>none),n,v,D,S⟩):EX (callL p) (.loop F47_l2) ⟨upd (upd (upd (upd (upd (upd (upd (upd (upd ((fun _=>none)) 60 (some (.val (I i)))) 59 (some (.val (I (l.map CFun.enc).length)))) 58 (some (.val (.slice .none 8 (l.map CFun.enc))))) 22 (some (.val x22))) 21 (some (.val x21))) 20 (some (.val x20))) 4 (some (.loc 4 0))) 3 (some (.val x3))) 1 (some (.loc 1 0)),upd (upd ((fun _=>none)) 4 (some ((Str g.name :: encArgs g.params :: ints g.vars :: g.body.cs)))) 1 (some ([SL 3 (c.decls.map Decl.enc),SL 8 (al.map CFun.enc)])),n,v,D,S⟩ Q:=by
 refine eloop (eseq (ereg (qp rfl (qb ?_))))
 rintro (_ | _) h1
 ·refine qk (kc rfl (kc rfl (kc rfl (kc rfl (kc rfl (kc rfl (kc rfl (kc rfl (kc rfl (kc rfl kn)))))))))) (kc rfl (kc rfl kn)) (sqn (eseq (ecF rfl (eexit (sqx ?_)))))
  exact hX _ (by rw [List.drop_eq_nil_of_le (by simp at h1 ⊢;omega)];rfl)
 ·refine qk (kc rfl (kc rfl (kc rfl (kc rfl (kc rfl (kc rfl (kc rfl (kc rfl (kc rfl (kc rfl kn)))))))))) (kc rfl (kc rfl kn)) (sqn (eseq (ecT rfl (eskip (sqn (eseq (eblock (eseq (ereg ?_)))))))))
  have hlt:i < l.length:=by simpa using h1
  obtain ⟨a,ha⟩:=get_of_lt hlt
  have hd:=drop_cons ha
  refine hia (y:=.agg (Str a.name :: encArgs a.params :: ints a.vars :: a.body.cs)) rfl rfl (by omega) (by simp [ha,Node.enc_eq,Br.enc_eq,CFun.enc_eq]) rfl (hlda rfl rfl (lc rfl (lc rfl (lc rfl (lc rfl (lc rfl (lc rfl (lc rfl (lc rfl (ln rfl))))))))) (hal (dc (dc (dc (dc (dc (dc (dc (dc (dc (dc (dc (dc dn rfl) rfl) rfl) rfl) rfl) rfl) rfl) rfl) rfl) rfl) rfl) rfl) (hstl rfl rfl rfl rfl (Nat.le_of_ble_eq_true rfl) (lc rfl (lc rfl (lc rfl (lc rfl (lc rfl (lc rfl (lc rfl (lc rfl (ln rfl))))))))) (qk (kc rfl (kc rfl (kc rfl (kc rfl (kc rfl (kc rfl (kc rfl (kc rfl (kc rfl (kc rfl kn)))))))))) (kc rfl (kc rfl (kc rfl kn))) (sqn (eseq (ereg (qp rfl (qp rfl (qp rfl (qp rfl (qp rfl (qb ?_)))))))))))))
  rintro (_ | _) h2
  ·refine qk (kc rfl (kc rfl (kc rfl (kc rfl (kc rfl (kc rfl (kc rfl (kc rfl (kc rfl (kc rfl kn)))))))))) (kc rfl (kc rfl kn)) (sqn (ecF rfl (eskip (bqn (sqn (ereg (hadd rfl rfl (i64w (by omega)) (qp rfl (qk (kc rfl (kc rfl (kc rfl (kc rfl (kc rfl (kc rfl (kc rfl (kc rfl (kc rfl kn))))))))) (kc rfl (kc rfl kn)) ?_)))))))))
   exact heads_l2 c g l (i + 1) (by omega) hs (fun j h=>hX j (by rw [hd];simp_all)) (fun h=>hR (by rw [hd];simp_all))
  ·refine qk (kc rfl (kc rfl (kc rfl (kc rfl (kc rfl (kc rfl (kc rfl (kc rfl (kc rfl (kc rfl kn)))))))))) (kc rfl (kc rfl kn)) (sqn (ecT rfl (eseq (ereg (qp rfl (qk (kc rfl kn) kn (sqn (eret (bqr (sqr ?_))))))))))
   exact hR (by rw [hd];simp_all)
termination_by l.length - i
decreasing_by all_goals omega
theorem heads_l1 (c:Core) (l:List CFun) (hpar:∀ g ∈ l,g.params.length ≤ 2 ^ 40) (i:Nat) (hi:i ≤ l.length) (hs:l.length ≤ 2 ^ 40) {n:Nat} {v:Nat → Bool} {D:List (Nat × List AV)} {S:Sg} {Q:Ex → Fr → Prop}
 (hX:∀ j,funsOk c.decls.length i ((l.take i).map CFun.name) (l.drop i)=true → Q (.exit 0) ⟨upd (upd (upd (upd (upd ((fun _=>none)) 23 (some (.val (B false)))) 22 (some (.val (I j)))) 21 (some (.val (I (l.map CFun.enc).length)))) 20 (some (.val (.slice .none 8 (l.map CFun.enc))))) 1 (some (.loc 1 0)),upd ((fun _=>none)) 1 (some ([SL 3 (c.decls.map Decl.enc),SL 8 (l.map CFun.enc)])),n,v,D,S⟩) (hR:funsOk c.decls.length i ((l.take i).map CFun.name) (l.drop i)=false → Q .ret ⟨upd ((fun _=>none)) 2 (some (.val (B false))),(fun _=>none),n,v,D,S⟩):EX (callL p) (.loop F47_l1) ⟨upd (upd (upd (upd ((fun _=>none)) 22 (some (.val (I i)))) 21 (some (.val (I (l.map CFun.enc).length)))) 20 (some (.val (.slice .none 8 (l.map CFun.enc))))) 1 (some (.loc 1 0)),upd ((fun _=>none)) 1 (some ([SL 3 (c.decls.map Decl.enc),SL 8 (l.map CFun.enc)])),n,v,D,S⟩ Q:=by
 refine eloop (eseq (ereg (qp rfl (qb ?_))))
 rintro (_ | _) h1
 ·refine qk (kc rfl (kc rfl (kc rfl (kc rfl (kc rfl kn))))) (kc rfl kn) (sqn (eseq (ecF rfl (eexit (sqx ?_)))))
  exact hX _ (by rw [List.drop_eq_nil_of_le (by simp at h1 ⊢;omega)];rfl)
 ·refine qk (kc rfl (kc rfl (kc rfl (kc rfl (kc rfl kn))))) (kc rfl kn) (sqn (eseq (ecT rfl (eskip (sqn (eseq (eblock (eseq (ereg (qp rfl ?_))))))))))
  have hlt:i < l.length:=by simpa using h1
  obtain ⟨a,ha⟩:=get_of_lt hlt
  have hd:=drop_cons ha
  refine hia (y:=.agg (Str a.name :: encArgs a.params :: ints a.vars :: a.body.cs)) rfl rfl (by omega) (by simp [ha,Node.enc_eq,Br.enc_eq,CFun.enc_eq]) rfl (hlda rfl rfl (lc rfl (lc rfl (lc rfl (lc rfl (lc rfl (lc rfl (lc rfl (lc rfl (ln rfl))))))))) (hal (dc (dc (dc (dc (dc (dc (dc (dc dn rfl) rfl) rfl) rfl) rfl) rfl) rfl) rfl) (qp rfl (hstl rfl rfl rfl rfl (Nat.le_of_ble_eq_true rfl) (lc rfl (lc rfl (lc rfl (lc rfl (lc rfl (lc rfl (lc rfl (lc rfl (ln rfl))))))))) (qk (kc rfl (kc rfl (kc rfl (kc rfl (kc rfl (kc rfl kn)))))) (kc rfl (kc rfl kn)) (sqn (eseq (eseq (ereg (qp rfl (qp rfl (hcall rfl rfl rfl (Name_c _ _) ?_))))))))))))
  rintro _ _ ⟨rfl,rfl⟩
  refine qb ?_
  rintro (_ | _) h2
  ·refine qp rfl (qp rfl (qs rfl rfl (by decide) (qs rfl rfl (by decide) (qs rfl rfl (by decide) (qs rfl rfl (by decide) (qp rfl (qp rfl (qs rfl rfl (by decide) (qs rfl rfl (by decide) (qs rfl rfl (by decide) (qs rfl rfl (by decide) (qs rfl rfl (by decide) (qs rfl rfl (by decide) (qs rfl rfl (by decide) (qp rfl (qp rfl (qs rfl rfl (by decide) (qs rfl rfl (by decide) (qs rfl rfl (by decide) (qs rfl rfl (by decide) (qs rfl rfl (by decide) (qs rfl rfl (by decide) (qs rfl rfl (by decide) ?_)))))))))))))))))))))))
   refine qp rfl (qk (kc rfl (kc rfl (kc rfl (kc rfl (kc rfl (kc rfl (kc rfl kn))))))) (kc rfl (kc rfl kn)) (sqn (ecT rfl (eseq (ereg (qp rfl (qk (kc rfl kn) kn (sqn (eret (sqr (bqr (sqr ?_))))))))))))
   have e2:funOk c.decls.length i ((l.take i).map CFun.name) a=false:=by
    clear hX hR
    simp_all [funOk,-List.all_eq_true,-List.all_eq_false,-List.any_eq_true,-List.any_eq_false] <;> omega
   exact hR (by rw [hd];simp only [funsOk,e2,Bool.false_and])
  ·refine qp rfl (qp rfl (qg rfl (qp rfl (qg rfl (qp rfl (qg rfl (qp rfl (qg rfl (qp rfl (qb ?_))))))))))
   rintro (_ | _) h3
   ·refine qp rfl (qp rfl (qg rfl (qp rfl (qg rfl (qp rfl (qg rfl (qp rfl (qg rfl (qp rfl (qg rfl (qp rfl (qg rfl (qp rfl (qg rfl (qp rfl (qb ?_))))))))))))))))
    rintro (_ | _) h4
    ·refine qp rfl (qp rfl (qg rfl (qp rfl (qg rfl (qp rfl (qg rfl (qp rfl (qg rfl (qp rfl (qg rfl (hcall rfl rfl rfl (cos_c _ a.params (hpar a (List.mem_of_getElem? ha))) ?_)))))))))))
     rintro _ _ ⟨rfl,rfl⟩
     rw [show a.params.map (fun a=>B a.co)=(a.params.map fun (q:Arg)=>q.co).map B from by simp]
     refine qg rfl (hcall rfl rfl rfl (distinct_c _ a.vars (a.params.map fun (q:Arg)=>q.co) (by simp at *;omega) (by have:=hpar a (List.mem_of_getElem? ha);simp at *;omega)) ?_)
     rintro _ _ ⟨rfl,rfl⟩
     refine qb ?_
     rintro (_ | _) h5
     ·refine qg rfl (qp rfl (qp rfl (qk (kc rfl (kc rfl (kc rfl (kc rfl (kc rfl (kc rfl (kc rfl kn))))))) (kc rfl (kc rfl kn)) (sqn (ecT rfl (eseq (ereg (qp rfl (qk (kc rfl kn) kn (sqn (eret (sqr (bqr (sqr ?_))))))))))))))
      have e2:funOk c.decls.length i ((l.take i).map CFun.name) a=false:=by
       clear hX hR
       simp_all [funOk,-List.all_eq_true,-List.all_eq_false,-List.any_eq_true,-List.any_eq_false] <;> omega
      exact hR (by rw [hd];simp only [funsOk,e2,Bool.false_and])
     ·refine qg rfl (qp rfl (qp rfl (qk (kc rfl (kc rfl (kc rfl (kc rfl (kc rfl (kc rfl (kc rfl kn))))))) (kc rfl (kc rfl kn)) (sqn (ecF rfl (eskip (sqn (eseq (eseq (ereg (qp rfl (qp rfl (qp rfl (hsl (a:=0) (b:=i) rfl rfl rfl (by simp;omega) (r:=(l.take i).map CFun.enc) (by simp) ?_))))))))))))))
      refine qp rfl (qp rfl (qk (kc rfl (kc rfl (kc rfl (kc rfl (kc rfl (kc rfl (kc rfl (kc rfl (kc rfl kn))))))))) (kc rfl (kc rfl kn)) (sqn (eblock ?_))))
      refine heads_l2 c a (l.take i) 0 (by omega) (by simp;omega) ?_ ?_
      ·intro j hn
       refine bqx (sqn (eseq (ereg (qp rfl (qp rfl (qp rfl (qp rfl (qk (kc rfl (kc rfl (kc rfl (kc rfl (kc rfl (kc rfl (kc rfl (kc rfl kn)))))))) (kc rfl kn) (sqn (eblock ?_))))))))))
       refine heads_l3 c i a.params 0 (by omega) (hpar a (List.mem_of_getElem? ha)) ?_ ?_
       ·intro q ht
        refine bqx (bqn (sqn (ereg (hadd rfl rfl (i64w (by omega)) (qp rfl (qk (kc rfl (kc rfl (kc rfl (kc rfl kn)))) (kc rfl kn) ?_))))))
        have e:(l.take (i + 1)).map CFun.name=(l.take i).map CFun.name ++ [a.name]:=by simp [List.take_add_one,ha]
        have e2:funOk c.decls.length i ((l.take i).map CFun.name) a=true:=by
         clear hX hR
         simp_all [funOk,-List.all_eq_true,-List.all_eq_false,-List.any_eq_true,-List.any_eq_false] <;> omega
        have hy:funsOk c.decls.length i ((l.take i).map CFun.name) (l.drop i)=funsOk c.decls.length (i + 1) ((l.take (i + 1)).map CFun.name) (l.drop (i + 1)):=by
         rw [hd,e]
         simp only [funsOk,e2,Bool.true_and]
        exact heads_l1 c l hpar (i + 1) (by omega) hs (fun j h=>hX j (hy.trans h)) (fun h=>hR (hy.trans h))
       ·intro ht
        refine bqr (bqr (sqr ?_))
        have e2:funOk c.decls.length i ((l.take i).map CFun.name) a=false:=by
         clear hX hR
         simp_all [funOk,-List.all_eq_true,-List.all_eq_false,-List.any_eq_true,-List.any_eq_false] <;> omega
        exact hR (by rw [hd];simp only [funsOk,e2,Bool.false_and])
      ·intro hn
       refine bqr (sqr (bqr (sqr ?_)))
       have e2:funOk c.decls.length i ((l.take i).map CFun.name) a=false:=by
        clear hX hR
        simp_all [funOk,-List.all_eq_true,-List.all_eq_false,-List.any_eq_true,-List.any_eq_false] <;> omega
       exact hR (by rw [hd];simp only [funsOk,e2,Bool.false_and])
    ·refine qp rfl (qp rfl (qs rfl rfl (by decide) (qs rfl rfl (by decide) (qs rfl rfl (by decide) (qs rfl rfl (by decide) (qs rfl rfl (by decide) (qs rfl rfl (by decide) (qs rfl rfl (by decide) (qp rfl (qk (kc rfl (kc rfl (kc rfl (kc rfl (kc rfl (kc rfl (kc rfl kn))))))) (kc rfl (kc rfl kn)) (sqn (ecT rfl (eseq (ereg (qp rfl (qk (kc rfl kn) kn (sqn (eret (sqr (bqr (sqr ?_)))))))))))))))))))))
     have e2:funOk c.decls.length i ((l.take i).map CFun.name) a=false:=by
      clear hX hR
      simp_all [funOk,-List.all_eq_true,-List.all_eq_false,-List.any_eq_true,-List.any_eq_false] <;> omega
     exact hR (by rw [hd];simp only [funsOk,e2,Bool.false_and])
   ·refine qp rfl (qp rfl (qs rfl rfl (by decide) (qs rfl rfl (by decide) (qs rfl rfl (by decide) (qs rfl rfl (by decide) (qs rfl rfl (by decide) (qs rfl rfl (by decide) (qs rfl rfl (by decide) (qp rfl (qp rfl (qs rfl rfl (by decide) (qs rfl rfl (by decide) (qs rfl rfl (by decide) (qs rfl rfl (by decide) (qs rfl rfl (by decide) (qs rfl rfl (by decide) (qs rfl rfl (by decide) (qp rfl (qk (kc rfl (kc rfl (kc rfl (kc rfl (kc rfl (kc rfl (kc rfl kn))))))) (kc rfl (kc rfl kn)) (sqn (ecT rfl (eseq (ereg ?_)))))))))))))))))))))))
    refine qp rfl (qk (kc rfl kn) kn (sqn (eret (sqr (bqr (sqr ?_))))))
    have e2:funOk c.decls.length i ((l.take i).map CFun.name) a=false:=by
     clear hX hR
     simp_all [funOk,-List.all_eq_true,-List.all_eq_false,-List.any_eq_true,-List.any_eq_false] <;> omega
    exact hR (by rw [hd];simp only [funsOk,e2,Bool.false_and])
termination_by l.length - i
decreasing_by all_goals omega
theorem heads_c (s:Sg) (c:Core) (hc:CoreSz c):HC p N47_ [.agg (Core.cs c)] s (fun r s'=>r=[B (headsOk c)] ∧ s'=s):=by
 refine hcf rfl f47_ rfl ?_
 simp only [chainOf]
 refine eseq (ereg (hbox (dc dn rfl) rfl (lc rfl (lc rfl (ln rfl))) (qp rfl (qk (kc rfl kn) (kc rfl kn) (sqn (eseq (eseq (ereg (qp rfl (qp rfl (qp rfl (qp rfl (qb ?_)))))))))))))
 rintro (_ | _) h1
 ·refine qp rfl (qg rfl (qp rfl (qg rfl (qp rfl (qg rfl (qp rfl (qg rfl (qp rfl (qb ?_)))))))))
  rintro (_ | _) h2
  ·refine qp rfl (qk (kc rfl (kc rfl kn)) (kc rfl kn) (sqn (ecF rfl (eskip (sqn (eseq (eseq (ereg (qp rfl (qp rfl (qp rfl (qp rfl (qk (kc rfl (kc rfl (kc rfl (kc rfl kn)))) (kc rfl kn) (sqn (eblock ?_)))))))))))))))
   refine heads_l1 c c.funs hc.ga 0 (by omega) (by simp at *;omega) ?_ ?_
   ·intro j hj
    refine bqx (sqn (eseq (ereg (qp rfl (qk (kc rfl kn) kn (sqn (eret (fqr rfl ?_))))))))
    refine ⟨?_,rfl⟩
    first
    | (have e:headsOk c=true:=by
        unfold headsOk
        rw [show funsOk c.decls.length 0 [] c.funs=true from hj]
        simp at *
        omega
       rw [e];rfl)
    | (have e:headsOk c=false:=by
        unfold headsOk
        rw [show funsOk c.decls.length 0 [] c.funs=false from hj,Bool.and_false]
       rw [e];rfl)
    | (have e:headsOk c=false:=by
        unfold headsOk
        have:(decide (1 ≤ c.funs.length) && decide (c.funs.length ≤ 12))=false:=by
         simp at *
         omega
        rw [this,Bool.false_and]
       rw [e];rfl)
   ·intro hj
    refine bqr (sqr (fqr rfl ?_))
    refine ⟨?_,rfl⟩
    first
    | (have e:headsOk c=true:=by
        unfold headsOk
        rw [show funsOk c.decls.length 0 [] c.funs=true from hj]
        simp at *
        omega
       rw [e];rfl)
    | (have e:headsOk c=false:=by
        unfold headsOk
        rw [show funsOk c.decls.length 0 [] c.funs=false from hj,Bool.and_false]
       rw [e];rfl)
    | (have e:headsOk c=false:=by
        unfold headsOk
        have:(decide (1 ≤ c.funs.length) && decide (c.funs.length ≤ 12))=false:=by
         simp at *
         omega
        rw [this,Bool.false_and]
       rw [e];rfl)
  ·refine qp rfl (qk (kc rfl (kc rfl kn)) (kc rfl kn) (sqn (ecT rfl (eseq (ereg (qp rfl (qk (kc rfl kn) kn (sqn (eret (sqr (fqr rfl ?_)))))))))))
   refine ⟨?_,rfl⟩
   first
   | (have e:headsOk c=true:=by
       unfold headsOk
       rw [show funsOk c.decls.length 0 [] c.funs=true from hj]
       simp at *
       omega
      rw [e];rfl)
   | (have e:headsOk c=false:=by
       unfold headsOk
       rw [show funsOk c.decls.length 0 [] c.funs=false from hj,Bool.and_false]
      rw [e];rfl)
   | (have e:headsOk c=false:=by
       unfold headsOk
       have:(decide (1 ≤ c.funs.length) && decide (c.funs.length ≤ 12))=false:=by
        simp at *
        omega
       rw [this,Bool.false_and]
      rw [e];rfl)
 ·refine qp rfl (qs rfl rfl (by decide) (qs rfl rfl (by decide) (qs rfl rfl (by decide) (qs rfl rfl (by decide) (qp rfl (qk (kc rfl (kc rfl kn)) (kc rfl kn) (sqn (ecT rfl (eseq (ereg (qp rfl (qk (kc rfl kn) kn (sqn (eret (sqr (fqr rfl ?_))))))))))))))))
  refine ⟨?_,rfl⟩
  first
  | (have e:headsOk c=true:=by
      unfold headsOk
      rw [show funsOk c.decls.length 0 [] c.funs=true from hj]
      simp at *
      omega
     rw [e];rfl)
  | (have e:headsOk c=false:=by
      unfold headsOk
      rw [show funsOk c.decls.length 0 [] c.funs=false from hj,Bool.and_false]
     rw [e];rfl)
  | (have e:headsOk c=false:=by
      unfold headsOk
      have:(decide (1 ≤ c.funs.length) && decide (c.funs.length ≤ 12))=false:=by
       simp at *
       omega
      rw [this,Bool.false_and]
     rw [e];rfl)
end Go.Sim.Kd
namespace Go.Sim.Kd
open Go Go.Sim
def bodyScope (co:Bool) (g:CFun):Int → Bool:=pos (addAll (fun _=>0) (parOf co (g.params.zip g.vars)))
def bodyOk (c:Core) (g:CFun):Bool:=decide ((nAll g.body:Int) ≤ 30000) && decide (nDepth g.body ≤ 4000) && decide (sortOf g.body.op=2) && vN c.decls c.funs g.body (bodyScope false g) (bodyScope true g)
def coreOk (c:Core):Bool:=declsValid c.decls && headsOk c && c.funs.all (bodyOk c) && decide (szL (fun g=>nNodes g.body) c.funs ≤ 30000)
theorem Bn_zero:Bn (fun _=>0) 0:=fun _=>⟨Int.le_refl 0,Int.le_refl 0⟩
theorem bodyBn (co:Bool) (g:CFun) (h:g.params.length ≤ 6) (hz:g.body.sz ≤ 2 ^ 40):Bn (addAll (fun _=>0) (parOf co (g.params.zip g.vars))) (2 ^ 41 - g.body.sz):=by
 refine (addAll_bn _ Bn_zero).le ?_
 have:=parOf_len (co:=co) (g.params.zip g.vars)
 simp at this
 omega
theorem funsOk_mem {N:Nat}:∀ {gs:List CFun} {i:Nat} {names:List ByteArray},funsOk N i names gs=true → ∀ g ∈ gs,g.params.length ≤ 6 ∧ g.vars.length=g.params.length
 | [],_,_,_,g,hg=>by cases hg
 | x :: gs,i,names,h,g,hg=>by
   simp only [funsOk,funOk,Bool.and_eq_true,decide_eq_true_eq] at h
   cases hg with
   | head=>exact ⟨h.1.1.1.1.1.2,h.1.1.1.1.2⟩
   | tail _ hg=>exact funsOk_mem h.2 g hg
theorem headsOk_mem {c:Core} (h:headsOk c=true):∀ g ∈ c.funs,g.params.length ≤ 6 ∧ g.vars.length=g.params.length:=by
 simp only [headsOk,Bool.and_eq_true] at h
 exact funsOk_mem h.2
theorem Is6_l (c:Core) (hc:CoreSz c) (hz:szL CFun.sz c.funs ≤ 2 ^ 40) (hH:headsOk c=true) (l:List CFun) (hl:∀ g ∈ l,g ∈ c.funs) (m:Nat) (i:Nat) (hi:i ≤ l.length) (hs:l.length ≤ 2 ^ 40) {n:Nat} {v:Nat → Bool} {D:List (Nat × List AV)} {S:Sg} {Q:Ex → Fr → Prop}
 (hm:m + szL (fun g=>nNodes g.body) (l.drop i) ≤ 2 ^ 50) (hX:∀ j S',(l.drop i).all (bodyOk c)=true → Ext S S' → Q (.exit 0) ⟨upd (upd (upd (upd (upd (upd ((fun _=>none)) 21 (some (.val (B false)))) 20 (some (.val (I j)))) 19 (some (.val (I (l.map CFun.enc).length)))) 18 (some (.val (.slice .none 8 (l.map CFun.enc))))) 3 (some (.val (I ((m + szL (fun g=>nNodes g.body) (l.drop i):Nat):Int))))) 1 (some (.loc 1 0)),upd ((fun _=>none)) 1 (some (Core.cs c)),n,v,D,S'⟩)
 (hR:(l.drop i).all (bodyOk c)=false → ∀ S',Ext S S' → Q .ret ⟨upd ((fun _=>none)) 2 (some (.val (B false))),(fun _=>none),n,v,D,S'⟩):EX (callL p) (.loop F13_l1) ⟨upd (upd (upd (upd (upd ((fun _=>none)) 20 (some (.val (I i)))) 19 (some (.val (I (l.map CFun.enc).length)))) 18 (some (.val (.slice .none 8 (l.map CFun.enc))))) 3 (some (.val (I m)))) 1 (some (.loc 1 0)),upd ((fun _=>none)) 1 (some (Core.cs c)),n,v,D,S⟩ Q:=by
 refine eloop (eseq (ereg (qp rfl (qb ?_))))
 rintro (_ | _) h1
 ·refine qk (kc rfl (kc rfl (kc rfl (kc rfl (kc rfl (kc rfl kn)))))) (kc rfl kn) (sqn (eseq (ecF rfl (eexit (sqx ?_)))))
  have h:=hX i S (by rw [List.drop_eq_nil_of_le (by simp at h1 ⊢;omega)];rfl) (Ext.refl _)
  rw [szL_end (by simp at h1;omega),Nat.add_zero] at h
  exact h
 ·refine qk (kc rfl (kc rfl (kc rfl (kc rfl (kc rfl (kc rfl kn)))))) (kc rfl kn) (sqn (eseq (ecT rfl (eskip (sqn (eseq (eblock (eseq (ereg ?_)))))))))
  have hlt:i < l.length:=by simpa using h1
  obtain ⟨a,ha⟩:=get_of_lt hlt
  have hd:=drop_cons ha
  refine hia (y:=.agg (Str a.name :: encArgs a.params :: ints a.vars :: a.body.cs)) rfl rfl (by omega) (by simp [ha,Node.enc_eq,Br.enc_eq,CFun.enc_eq]) rfl (hlda rfl rfl (lc rfl (lc rfl (lc rfl (lc rfl (lc rfl (lc rfl (lc rfl (lc rfl (ln rfl))))))))) (hal (dc (dc (dc (dc (dc (dc (dc (dc dn rfl) rfl) rfl) rfl) rfl) rfl) rfl) rfl) (hstl rfl rfl rfl rfl (Nat.le_of_ble_eq_true rfl) (lc rfl (lc rfl (lc rfl (lc rfl (lc rfl (lc rfl (lc rfl (lc rfl (ln rfl))))))))) (qk (kc rfl (kc rfl (kc rfl (kc rfl (kc rfl (kc rfl kn)))))) (kc rfl (kc rfl kn)) (sqn (eseq (eseq (ereg ?_))))))))
  have hmem:=hl a (List.mem_of_getElem? ha)
  have hpar:=headsOk_mem hH a hmem
  have hsz:a.body.sz ≤ 2 ^ 40:=by
   obtain ⟨q,hq⟩:=List.getElem?_of_mem hmem
   exact fun_sz hq hz
  have hnn:=nNodes_all a.body
  have hns:=nAll_sz a.body
  refine qp rfl (hlda rfl rfl (lc rfl (lc rfl (lc rfl (lc rfl (lc rfl (ln rfl)))))) (hcall rfl rfl rfl (Fits_c _ a.body hsz 30000 (by omega) (by omega)) ?_))
  rintro _ _ ⟨rfl,hq⟩
  obtain rfl:=hq.symm
  refine qb ?_
  rintro (_ | _) h2
  ·refine qp rfl (qk (kc rfl (kc rfl (kc rfl (kc rfl (kc rfl (kc rfl (kc rfl kn))))))) (kc rfl (kc rfl kn)) (sqn (ecT rfl (eseq (ereg (qp rfl (qk (kc rfl kn) kn (sqn (eret (sqr (bqr (sqr ?_))))))))))))
   first
   | (have hv:bodyOk c a=false:=by
       have e:vN c.decls c.funs a.body (bodyScope false a) (bodyScope true a)=false:=by assumption
       unfold bodyOk;rw [e,Bool.and_false]
      exact hR (by rw [hd,List.all_cons,hv,Bool.false_and]) _ (((hE1.chg (X:=IXA ix ia)).trans hc2).ext fun i h=>by rcases h with h | h <;> omega))
   | (have hv:bodyOk c a=false:=by
       clear hX hR
       simp_all [bodyOk] <;> omega
      exact hR (by rw [hd,List.all_cons,hv,Bool.false_and]) _ (Ext.refl _))
  ·refine qp rfl (qk (kc rfl (kc rfl (kc rfl (kc rfl (kc rfl (kc rfl (kc rfl kn))))))) (kc rfl (kc rfl kn)) (sqn (ecF rfl (eskip (sqn (eseq (ereg (qp rfl (hlda rfl rfl (lc rfl (lc rfl (lc rfl (lc rfl (lc rfl (ln rfl)))))) (hcall rfl rfl rfl (Size_c a.body hsz _) ?_))))))))))
   rintro _ _ ⟨rfl,hq⟩
   obtain rfl:=hq.symm
   refine qp rfl (qp rfl (qp rfl (qp rfl (qp rfl (qk (kc rfl (kc rfl (kc rfl (kc rfl (kc rfl (kc rfl (kc rfl (kc rfl kn)))))))) (kc rfl (kc rfl kn)) (sqn (eseq (ereg (qp rfl (qp rfl (hadd rfl rfl (i64w (by have this:szL (fun g=>nNodes g.body) (l.drop i)=nNodes a.body + szL (fun g=>nNodes g.body) (l.drop (i + 1)):=szL_drop (f:=fun g=>nNodes g.body) ha;omega)) (qp rfl (qk (kc rfl (kc rfl (kc rfl (kc rfl (kc rfl (kc rfl (kc rfl kn))))))) (kc rfl (kc rfl kn)) (sqn (eseq (ereg (qp rfl (qp rfl (qb ?_)))))))))))))))))))
   rintro (_ | _) h3
   ·refine qp rfl (qg rfl (qp rfl (qg rfl (qp rfl (qg rfl (qp rfl (qg rfl (hcall rfl rfl rfl (Kind_c _ _) ?_))))))))
    rintro _ _ ⟨rfl,hq⟩
    obtain rfl:=hq.symm
    refine qg rfl (qp rfl (qb ?_))
    rintro (_ | _) h4
    ·refine qp rfl (qp rfl (qg rfl (hlda rfl rfl (lc rfl (lc rfl (ln rfl))) (qg rfl (hlda rfl rfl (lc rfl (lc rfl (lc rfl (lc rfl (lc rfl (lc rfl (lc rfl (lc rfl (ln rfl))))))))) (qg rfl (hcall rfl rfl rfl (Params_c _ a hpar.2.symm (by omega)) ?_)))))))
     rintro _ _ ⟨rfl,hq⟩
     obtain rfl:=hq.symm
     refine qg rfl (qp rfl (qg rfl (qp rfl (qg rfl (hcall rfl rfl rfl (NewScope_c _ _ _ (by have:=parOf_len (co:=false) (a.params.zip a.vars);simp at this;omega) (by have:=parOf_len (co:=true) (a.params.zip a.vars);simp at this;omega)) ?_)))))
     rintro _ S1 ⟨o,ix,ia,rfl,hS1,hE1,n1,n2,n3⟩
     refine qg rfl (qp rfl (qg rfl (hlda rfl rfl (lc rfl (lc rfl (lc rfl (lc rfl (lc rfl (ln rfl)))))) (qg rfl (hcall rfl rfl rfl (Valid_c c hc a.body hsz _ o ix ia _ _ hS1 (bodyBn false a hpar.1 hsz) (bodyBn true a hpar.1 hsz)) ?_)))))
     rintro _ S2 ⟨rfl,hS2,hc2⟩
     refine qb ?_
     rintro (_ | _) h5
     ·refine qg rfl (qp rfl (qp rfl (qk (kc rfl (kc rfl (kc rfl (kc rfl (kc rfl (kc rfl kn)))))) (kc rfl kn) (sqn (ecT rfl (eseq (ereg (qp rfl (qk (kc rfl kn) kn (sqn (eret (bqr (sqr ?_)))))))))))))
      first
      | (have hv:bodyOk c a=false:=by
          have e:vN c.decls c.funs a.body (bodyScope false a) (bodyScope true a)=false:=by assumption
          unfold bodyOk;rw [e,Bool.and_false]
         exact hR (by rw [hd,List.all_cons,hv,Bool.false_and]) _ (((hE1.chg (X:=IXA ix ia)).trans hc2).ext fun i h=>by rcases h with h | h <;> omega))
      | (have hv:bodyOk c a=false:=by
          clear hX hR
          simp_all [bodyOk] <;> omega
         exact hR (by rw [hd,List.all_cons,hv,Bool.false_and]) _ (Ext.refl _))
     ·refine qg rfl (qp rfl (qp rfl (qk (kc rfl (kc rfl (kc rfl (kc rfl (kc rfl (kc rfl kn)))))) (kc rfl kn) (sqn (ecF rfl (eskip (bqn (sqn (ereg (hadd rfl rfl (i64w (by omega)) (qp rfl (qk (kc rfl (kc rfl (kc rfl (kc rfl (kc rfl kn))))) (kc rfl kn) ?_))))))))))))
      have hv:bodyOk c a=true:=by
       have e:vN c.decls c.funs a.body (bodyScope false a) (bodyScope true a)=true:=by assumption
       unfold bodyOk
       rw [e]
       clear hX hR
       simp at *
       omega
      have hE:=((hE1.chg (X:=IXA ix ia)).trans hc2).ext fun i h=>by rcases h with h | h <;> omega
      have es:szL (fun g=>nNodes g.body) (l.drop i)=nNodes a.body + szL (fun g=>nNodes g.body) (l.drop (i + 1)):=szL_drop (f:=fun g=>nNodes g.body) ha
      exact Is6_l c hc hz hH l hl (m + nNodes a.body) (i + 1) (by omega) hs (by omega) (fun j S' h x=>by
       have:=hX j S' (by rw [hd,List.all_cons,hv,h];rfl) (hE.trans x)
       rw [es,← Nat.add_assoc] at this
       exact this) (fun h S' x=>hR (by rw [hd,List.all_cons,h,Bool.and_false]) S' (hE.trans x))
    ·refine qp rfl (qp rfl (qs rfl rfl (by decide) (qs rfl rfl (by decide) (qs rfl rfl (by decide) (qs rfl rfl (by decide) (qs rfl rfl (by decide) (qs rfl rfl (by decide) (qs rfl rfl (by decide) (qs rfl rfl (by decide) (qs rfl rfl (by decide) (qs rfl rfl (by decide) (qp rfl (qk (kc rfl (kc rfl (kc rfl (kc rfl (kc rfl (kc rfl kn)))))) (kc rfl kn) (sqn (ecT rfl (eseq (ereg (qp rfl (qk (kc rfl kn) kn (sqn (eret (bqr (sqr ?_)))))))))))))))))))))))
     first
     | (have hv:bodyOk c a=false:=by
         have e:vN c.decls c.funs a.body (bodyScope false a) (bodyScope true a)=false:=by assumption
         unfold bodyOk;rw [e,Bool.and_false]
        exact hR (by rw [hd,List.all_cons,hv,Bool.false_and]) _ (((hE1.chg (X:=IXA ix ia)).trans hc2).ext fun i h=>by rcases h with h | h <;> omega))
     | (have hv:bodyOk c a=false:=by
         clear hX hR
         simp_all [bodyOk] <;> omega
        exact hR (by rw [hd,List.all_cons,hv,Bool.false_and]) _ (Ext.refl _))
   ·refine qp rfl (qs rfl rfl (by decide) (qs rfl rfl (by decide) (qs rfl rfl (by decide) (qs rfl rfl (by decide) (qs rfl rfl (by decide) (qp rfl (qp rfl (qs rfl rfl (by decide) (qs rfl rfl (by decide) (qs rfl rfl (by decide) (qs rfl rfl (by decide) (qs rfl rfl (by decide) (qs rfl rfl (by decide) (qs rfl rfl (by decide) (qs rfl rfl (by decide) (qs rfl rfl (by decide) (qs rfl rfl (by decide) (qp rfl (qk (kc rfl (kc rfl (kc rfl (kc rfl (kc rfl (kc rfl kn)))))) (kc rfl kn) (sqn (ecT rfl (eseq (ereg ?_)))))))))))))))))))))))
    refine qp rfl (qk (kc rfl kn) kn (sqn (eret (bqr (sqr ?_)))))
    first
    | (have hv:bodyOk c a=false:=by
        have e:vN c.decls c.funs a.body (bodyScope false a) (bodyScope true a)=false:=by assumption
        unfold bodyOk;rw [e,Bool.and_false]
       exact hR (by rw [hd,List.all_cons,hv,Bool.false_and]) _ (((hE1.chg (X:=IXA ix ia)).trans hc2).ext fun i h=>by rcases h with h | h <;> omega))
    | (have hv:bodyOk c a=false:=by
        clear hX hR
        simp_all [bodyOk] <;> omega
       exact hR (by rw [hd,List.all_cons,hv,Bool.false_and]) _ (Ext.refl _))
termination_by l.length - i
decreasing_by all_goals omega
theorem Is6_c (s:Sg) (c:Core) (hc:CoreSz c) (hz:szL CFun.sz c.funs ≤ 2 ^ 40) (hl2:c.funs.length ≤ 2 ^ 40):HC p N13_ [.agg (Core.cs c)] s (fun r s'=>r=[B (coreOk c)] ∧ Ext s s'):=by
 have hsum:0 + szL (fun g=>nNodes g.body) (c.funs.drop 0) ≤ 2 ^ 50:=by
  have:=szL_le (l:=c.funs) (f:=fun g=>nNodes g.body) (g:=CFun.sz) (fun g _=>by
   have h1:=nNodes_all g.body
   have h2:=nAll_sz g.body
   unfold CFun.sz
   omega)
  rw [List.drop_zero]
  omega
 refine hcf rfl f13_ rfl ?_
 simp only [chainOf]
 refine eseq (ereg (hbox (dc dn rfl) rfl (lc rfl (lc rfl (ln rfl))) (qp rfl (qk (kc rfl kn) (kc rfl kn) (sqn (eseq (eseq (ereg (qp rfl (qp rfl (hcall rfl rfl rfl (Is01_c _ c.decls hc.dl) ?_)))))))))))
 rintro _ _ ⟨rfl,hq⟩
 obtain rfl:=hq.symm
 refine qb ?_
 rintro (_ | _) h1
 ·refine qp rfl (qp rfl (qs rfl rfl (by decide) (qs rfl rfl (by decide) (qs rfl rfl (by decide) (qp rfl (qk (kc rfl (kc rfl kn)) (kc rfl kn) (sqn (ecT rfl (eseq (ereg (qp rfl (qk (kc rfl kn) kn (sqn (eret (sqr (fqr rfl ?_))))))))))))))))
  first
  | (have a1:declsValid c.decls=false:=by assumption
     exact ⟨by unfold coreOk;rw [a1];rfl,Ext.refl _⟩)
  | (have a1:headsOk c=false:=by assumption
     exact ⟨by unfold coreOk;rw [a1,Bool.and_false];rfl,Ext.refl _⟩)
  | (have a3:c.funs.all (bodyOk c)=false:=hj
     exact ⟨by unfold coreOk;rw [a3,Bool.and_false];rfl,hE⟩)
 ·refine qp rfl (qp rfl (qg rfl (hlda rfl rfl (lc rfl (lc rfl (ln rfl))) (qg rfl (hcall rfl rfl rfl (heads_c _ c hc) ?_)))))
  rintro _ _ ⟨rfl,hq⟩
  obtain rfl:=hq.symm
  refine qb ?_
  rintro (_ | _) h2
  ·refine qg rfl (qp rfl (qp rfl (qk (kc rfl (kc rfl kn)) (kc rfl kn) (sqn (ecT rfl (eseq (ereg (qp rfl (qk (kc rfl kn) kn (sqn (eret (sqr (fqr rfl ?_)))))))))))))
   first
   | (have a1:declsValid c.decls=false:=by assumption
      exact ⟨by unfold coreOk;rw [a1];rfl,Ext.refl _⟩)
   | (have a1:headsOk c=false:=by assumption
      exact ⟨by unfold coreOk;rw [a1,Bool.and_false];rfl,Ext.refl _⟩)
   | (have a3:c.funs.all (bodyOk c)=false:=hj
      exact ⟨by unfold coreOk;rw [a3,Bool.and_false];rfl,hE⟩)
  ·refine qg rfl (qp rfl (qp rfl (qk (kc rfl (kc rfl kn)) (kc rfl kn) (sqn (ecF rfl (eskip (sqn (eseq (ereg (qp rfl (qk (kc rfl (kc rfl kn)) (kc rfl kn) (sqn (eseq (eseq (ereg (qp rfl (qp rfl (qp rfl (qp rfl (qk (kc rfl (kc rfl (kc rfl (kc rfl (kc rfl kn))))) (kc rfl kn) (sqn (eblock ?_))))))))))))))))))))))
   refine Is6_l c hc hz (by assumption) c.funs (fun g h=>h) 0 0 (by omega) hl2 hsum ?_ ?_
   ·intro j S1 hj hE
    refine bqx (sqn (eseq (ereg (qp rfl (qp rfl (qp rfl (qk (kc rfl kn) kn (sqn (eret (fqr rfl ?_))))))))))
    have e1:coreOk c=decide (szL (fun g=>nNodes g.body) c.funs ≤ 30000):=by
     have a1:declsValid c.decls=true:=by assumption
     have a2:headsOk c=true:=by assumption
     have a3:c.funs.all (bodyOk c)=true:=hj
     unfold coreOk
     rw [a1,a2,a3]
     simp
    refine ⟨?_,hE⟩
    rw [e1]
    refine congrArg (fun b=>[B b]) ?_
    rw [Bool.eq_iff_iff]
    simp
    omega
   ·intro hj S1 hE
    refine bqr (sqr (fqr rfl ?_))
    first
    | (have a1:declsValid c.decls=false:=by assumption
       exact ⟨by unfold coreOk;rw [a1];rfl,Ext.refl _⟩)
    | (have a1:headsOk c=false:=by assumption
       exact ⟨by unfold coreOk;rw [a1,Bool.and_false];rfl,Ext.refl _⟩)
    | (have a3:c.funs.all (bodyOk c)=false:=hj
       exact ⟨by unfold coreOk;rw [a3,Bool.and_false];rfl,hE⟩)
end Go.Sim.Kd
namespace Go.Sim.Kd
open Go Go.Sim
def keyP (q:Int × Bool):Int × Int:=(sideOf q.2,q.1)
theorem keyP_inj {a b:Int × Bool} (h:keyP a=keyP b):a=b:=by
 obtain ⟨x,c⟩:=a
 obtain ⟨y,d⟩:=b
 simp only [keyP,Prod.mk.injEq] at h
 obtain ⟨h1,rfl⟩:=h
 cases c <;> cases d <;> simp_all [sideOf]
theorem keyP_any (l:List (Int × Bool)) (x:Int × Bool):((l.map keyP).any fun y=>decide (y=keyP x))=l.any fun y=>decide (y=x):=by
 rw [List.any_map]
 congr 1
 funext y
 rw [Bool.eq_iff_iff]
 simp only [Function.comp_apply,decide_eq_true_eq]
 exact ⟨keyP_inj,fun e=>by rw [e]⟩
theorem binds_l {pm:Nat} (vars:List Int) (cos:List Bool) (hl:vars.length=cos.length) (i:Nat) (hi:i ≤ vars.length) (hs:vars.length ≤ 2 ^ 40) {n:Nat} {v:Nat → Bool} {D:List (Nat × List AV)} {S:Sg} {Q:Ex → Fr → Prop}
 (hM:S.ob pm=some (.map (.int2 .i64) (setP (((vars.zip cos).take i).map keyP)))) (hX:∀ j S',distinctOk ((vars.zip cos).take i) ((vars.zip cos).drop i)=true → Chg (·=pm) S S' → Q (.exit 0) ⟨upd (upd (upd (upd (upd (upd ((fun _=>none)) 18 (some (.val (B false)))) 17 (some (.val (I j)))) 16 (some (.val (I (vars.map I).length)))) 15 (some (.val (.slice .none 1 (vars.map I))))) 5 (some (.val (.map pm)))) 1 (some (.val (bools cos))),(fun _=>none),n,v,D,S'⟩)
 (hR:distinctOk ((vars.zip cos).take i) ((vars.zip cos).drop i)=false → ∀ S',Chg (·=pm) S S' → Q .ret ⟨upd ((fun _=>none)) 4 (some (.val (B false))),(fun _=>none),n,v,D,S'⟩):EX (callL p) (.loop F90_l1) ⟨upd (upd (upd (upd (upd ((fun _=>none)) 17 (some (.val (I i)))) 16 (some (.val (I (vars.map I).length)))) 15 (some (.val (.slice .none 1 (vars.map I))))) 5 (some (.val (.map pm)))) 1 (some (.val (bools cos))),(fun _=>none),n,v,D,S⟩ Q:=by
 refine eloop (eseq (ereg (qp rfl (qb ?_))))
 rintro (_ | _) h1
 ·refine qk (kc rfl (kc rfl (kc rfl (kc rfl (kc rfl (kc rfl kn)))))) kn (sqn (eseq (ecF rfl (eexit (sqx ?_)))))
  exact hX _ _ (by rw [List.drop_eq_nil_of_le (by simp at h1 ⊢;omega)];rfl) (Chg.refl _)
 ·refine qk (kc rfl (kc rfl (kc rfl (kc rfl (kc rfl (kc rfl kn)))))) kn (sqn (eseq (ecT rfl (eskip (sqn (eseq (eblock (eseq (ereg (qp rfl ?_))))))))))
  have hlt:i < vars.length:=by simpa using h1
  obtain ⟨a,ha⟩:=get_of_lt hlt
  have hd:=drop_cons ha
  refine hia (y:=I a) rfl rfl (by omega) (by simp [ha]) rfl (qp rfl (qp rfl (qp rfl (qk (kc rfl (kc rfl (kc rfl (kc rfl (kc rfl (kc rfl (kc rfl kn))))))) kn (sqn (eseq (ereg (qp rfl (qp rfl ?_)))))))))
  obtain ⟨c,hc⟩:=get_of_lt (l:=cos) (i:=i) (by omega)
  have hz:=drop_cons (zip_at ha hc)
  refine hia (y:=B c) rfl rfl (by omega) (by simp [hc]) rfl (qp rfl (hcall rfl rfl rfl (cside_c _ c) ?_))
  rintro _ _ ⟨rfl,hq⟩
  obtain rfl:=hq.symm
  refine qp rfl (hbuild rfl rfl (lc rfl (lc rfl (ln rfl))) (hal (dc (dc (dc (dc (dc (dc (dc (dc (dc (dc (dc (dc (dc (dc dn rfl) rfl) rfl) rfl) rfl) rfl) rfl) rfl) rfl) rfl) rfl) rfl) rfl) rfl) (hstl rfl rfl rfl rfl (Nat.le_of_ble_eq_true rfl) (lc rfl (lc rfl (ln rfl))) (qk (kc rfl (kc rfl (kc rfl (kc rfl (kc rfl (kc rfl (kc rfl kn))))))) (kc rfl kn) (sqn (eseq (eseq (ereg (qp rfl (hcall rfl rfl rfl (number_c _ a) ?_))))))))))
  rintro _ _ ⟨rfl,hq⟩
  obtain rfl:=hq.symm
  refine qb ?_
  rintro (_ | _) h2
  ·refine qp rfl (qp rfl (qs rfl rfl (by decide) (qs rfl rfl (by decide) (qs rfl rfl (by decide) (qp rfl (qk (kc rfl (kc rfl (kc rfl (kc rfl (kc rfl (kc rfl (kc rfl kn))))))) (kc rfl kn) (sqn (ecT rfl (eseq (ereg (qp rfl (qk (kc rfl kn) kn (sqn (eret (sqr (bqr (sqr ?_)))))))))))))))))
   first
   | (have hnum:numOk a=false:=by assumption
      exact hR (by rw [hz];simp only [distinctOk,hnum,Bool.false_and]) _ (Chg.refl _))
   | (have hn:(((vars.zip cos).take i).any fun q=>decide (q=(a,c)))=true:=by assumption
      exact hR (by rw [hz];simp only [distinctOk,hn,Bool.not_true,Bool.and_false,Bool.false_and]) _ (Chg.refl _))
  ·refine qp rfl (qp rfl (qg rfl (qp rfl (qg rfl (hlda rfl rfl (lc rfl (lc rfl (ln rfl))) (qg rfl (hlk (key:=pairV (keyP (a,c))) rfl rfl rfl hM ?_)))))))
   rw [setP_get,keyP_any]
   refine qb ?_
   rintro (_ | _) h3
   ·refine qp rfl (qk (kc rfl (kc rfl (kc rfl (kc rfl (kc rfl (kc rfl (kc rfl kn))))))) (kc rfl kn) (sqn (ecF rfl (eskip (sqn (ereg (qp rfl (hlda rfl rfl (lc rfl (lc rfl (ln rfl))) (hmu (key:=pairV (keyP (a,c))) rfl rfl rfl rfl hM ?_)))))))))
    rw [show (AV.lit (.bool true)).er=B true from rfl,setP_add]
    refine qk (kc rfl (kc rfl (kc rfl (kc rfl (kc rfl kn))))) kn (bqn (sqn (ereg (hadd rfl rfl (i64w (by omega)) (qp rfl (qk (kc rfl (kc rfl (kc rfl (kc rfl (kc rfl kn))))) kn ?_))))))
    have ht:(vars.zip cos).take (i + 1)=(vars.zip cos).take i ++ [(a,c)]:=by simp [List.take_add_one,zip_at ha hc]
    have hnum:numOk a=true:=by assumption
    have hn:(((vars.zip cos).take i).any fun q=>decide (q=(a,c)))=false:=by assumption
    have hy:distinctOk ((vars.zip cos).take i) ((vars.zip cos).drop i)=distinctOk ((vars.zip cos).take (i + 1)) ((vars.zip cos).drop (i + 1)):=by
     rw [hz,ht]
     simp only [distinctOk,hnum,hn,Bool.true_and,Bool.not_false]
    have hcc:Chg (·=pm) S (S.set pm (.map (.int2 .i64) (setP (((vars.zip cos).take i).map keyP ++ [keyP (a,c)])))):=(Chg.refl S).set fun _=>rfl
    exact binds_l vars cos hl (i + 1) (by omega) hs (by rw [ht,List.map_append];exact set_ob) (fun j S' h cc=>hX j S' (hy.trans h) (hcc.trans cc)) (fun h S' cc=>hR (hy.trans h) S' (hcc.trans cc))
   ·refine qp rfl (qk (kc rfl (kc rfl (kc rfl (kc rfl (kc rfl (kc rfl (kc rfl kn))))))) (kc rfl kn) (sqn (ecT rfl (eseq (ereg (qp rfl (qk (kc rfl kn) kn (sqn (eret (sqr (bqr (sqr ?_))))))))))))
    first
    | (have hnum:numOk a=false:=by assumption
       exact hR (by rw [hz];simp only [distinctOk,hnum,Bool.false_and]) _ (Chg.refl _))
    | (have hn:(((vars.zip cos).take i).any fun q=>decide (q=(a,c)))=true:=by assumption
       exact hR (by rw [hz];simp only [distinctOk,hn,Bool.not_true,Bool.and_false,Bool.false_and]) _ (Chg.refl _))
termination_by vars.length - i
decreasing_by all_goals omega
theorem binds_c (s:Sg) (vars:List Int) (cos:List Bool) (hzz:vars.length ≤ 2 ^ 40):HC p N90_ [ints vars,bools cos] s (fun r s'=>r=[B (decide (vars.length=cos.length) && distinctOk [] (vars.zip cos))] ∧ Ext s s'):=by
 refine hcf rfl f90_ rfl ?_
 simp only [chainOf]
 refine eseq (ereg (qp rfl (qk (kc rfl (kc rfl kn)) kn (sqn (eseq (eseq (ereg (qp rfl (qp rfl (qp rfl (qp rfl (qp rfl (qb ?_)))))))))))))
 rintro (_ | _) h1
 ·refine qk (kc rfl (kc rfl (kc rfl kn))) kn (sqn (ecF rfl (eskip (sqn (eseq (ereg (hmkm (qp rfl (qk (kc rfl (kc rfl (kc rfl kn))) kn (sqn (eseq (eseq (ereg (qp rfl (qp rfl (qp rfl (qk (kc rfl (kc rfl (kc rfl (kc rfl (kc rfl kn))))) kn (sqn (eblock ?_)))))))))))))))))))
  refine binds_l vars cos (by simp at h1;omega) 0 (by omega) hzz (by rw [List.take_zero,List.map_nil,setP_nil];exact new_ob) ?_ ?_
  ·intro j S1 hj hc
   refine bqx (sqn (eseq (ereg (qp rfl (qk (kc rfl kn) kn (sqn (eret (fqr rfl ?_))))))))
   first
   | (have e:decide (vars.length=cos.length)=false:=by simp at h1 ⊢;omega
      exact ⟨by rw [e];rfl,Ext.refl _⟩)
   | (have e:decide (vars.length=cos.length)=true:=by simp at h1 ⊢;omega
      have hx:=hj
      simp only [List.take_zero,List.drop_zero] at hx
      exact ⟨by rw [e,hx];rfl,(((Chg.refl s).new).trans (hc.mono fun i _ h=>by rw [h];exact Nat.le_refl _)).ext (X:=fun i=>s.nx ≤ i) fun i h=>h⟩)
  ·intro hj S1 hc
   refine bqr (sqr (fqr rfl ?_))
   first
   | (have e:decide (vars.length=cos.length)=false:=by simp at h1 ⊢;omega
      exact ⟨by rw [e];rfl,Ext.refl _⟩)
   | (have e:decide (vars.length=cos.length)=true:=by simp at h1 ⊢;omega
      have hx:=hj
      simp only [List.take_zero,List.drop_zero] at hx
      exact ⟨by rw [e,hx];rfl,(((Chg.refl s).new).trans (hc.mono fun i _ h=>by rw [h];exact Nat.le_refl _)).ext (X:=fun i=>s.nx ≤ i) fun i h=>h⟩)
 ·refine qk (kc rfl (kc rfl (kc rfl kn))) kn (sqn (ecT rfl (eseq (ereg (qp rfl (qk (kc rfl kn) kn (sqn (eret (sqr (fqr rfl ?_))))))))))
  first
  | (have e:decide (vars.length=cos.length)=false:=by simp at h1 ⊢;omega
     exact ⟨by rw [e];rfl,Ext.refl _⟩)
  | (have e:decide (vars.length=cos.length)=true:=by simp at h1 ⊢;omega
     have hx:=hj
     simp only [List.take_zero,List.drop_zero] at hx
     exact ⟨by rw [e,hx];rfl,(((Chg.refl s).new).trans (hc.mono fun i _ h=>by rw [h];exact Nat.le_refl _)).ext (X:=fun i=>s.nx ≤ i) fun i h=>h⟩)
end Go.Sim.Kd
namespace Go.Sim.Kd
open Go Go.Sim
def setM (X:Int → Bool):Value → Option AV
 | .int .i64 n=>if X n=true then some (B true) else none
 | _=>none
theorem setM_add (X:Int → Bool) (v:Int):mset (setM X) (.int .i64 v) (some (B true))=setM (addV X v):=by
 funext k
 unfold mset
 by_cases h:k=.int .i64 v
 ·subst h;simp [setM,addV]
 ·rw [if_neg h]
  cases k <;> try rfl
  rename_i kd n
  cases kd <;> try rfl
  have hne:n ≠ v:=fun e=>h (by rw [e])
  simp [setM,addV,hne]
theorem setM_del (X:Int → Bool) (v:Int) (hv:X v=false):mset (setM (addV X v)) (.int .i64 v) none=setM X:=by
 funext k
 unfold mset
 by_cases h:k=.int .i64 v
 ·subst h;simp [setM,hv]
 ·rw [if_neg h]
  cases k <;> try rfl
  rename_i kd n
  cases kd <;> try rfl
  have hne:n ≠ v:=fun e=>h (by rw [e])
  simp [setM,addV,hne]
theorem setM_get (X:Int → Bool) (v:Int):(setM X (.int .i64 v)).getD (B false)=B (X v):=by
 simp only [setM]
 cases X v <;> rfl
structure PS (i0 i1:Nat) (X A:Int → Bool) (S:Sg):Prop where
 h0:S.ob i0=some (.map (.int .i64) (setM X))
 h1:S.ob i1=some (.map (.int .i64) (setM A))
 l0:i0 < S.nx
 l1:i1 < S.nx
 ne:i0 ≠ i1
theorem PS.add0 {i0 i1:Nat} {X A:Int → Bool} {S:Sg} (h:PS i0 i1 X A S) (v:Int):PS i0 i1 (addV X v) A (S.set i0 (.map (.int .i64) (setM (addV X v)))) :=
 ⟨set_ob,by rw [set_ne (Ne.symm h.ne)];exact h.h1,h.l0,h.l1,h.ne⟩
theorem PS.add1 {i0 i1:Nat} {X A:Int → Bool} {S:Sg} (h:PS i0 i1 X A S) (v:Int):PS i0 i1 X (addV A v) (S.set i1 (.map (.int .i64) (setM (addV A v)))) :=
 ⟨by rw [set_ne h.ne];exact h.h0,set_ob,h.l0,h.l1,h.ne⟩
theorem PS.keep {i0 i1:Nat} {X A:Int → Bool} {S S':Sg} {Y:Nat → Prop} (h:PS i0 i1 X A S) (k:Chg Y S S') (h0:¬ Y i0) (h1:¬ Y i1):PS i0 i1 X A S' :=
 ⟨(k.ob i0 h.l0 h0).trans h.h0,(k.ob i1 h.l1 h1).trans h.h1,Nat.lt_of_lt_of_le h.l0 k.nx,Nat.lt_of_lt_of_le h.l1 k.nx,h.ne⟩
def setL (X:Int → Bool):List Int → (Int → Bool)
 | []=>X
 | v :: vs=>setL (addV X v) vs
theorem cNS_l1 {i0 i1:Nat} (l:List Int) (X A:Int → Bool) (i:Nat) (hi:i ≤ l.length) (hs:l.length ≤ 2 ^ 40) {x1:AV} {n:Nat} {v:Nat → Bool} {D:List (Nat × List AV)} {S:Sg} {Q:Ex → Fr → Prop}
 (hS:PS i0 i1 X A S) (hX:∀ j S',PS i0 i1 (setL X (l.drop i)) A S' → Chg (IXA i0 i1) S S' → Q (.exit 0) ⟨upd (upd (upd (upd (upd (upd (upd ((fun _=>none)) 16 (some (.val (B false)))) 15 (some (.val (I j)))) 14 (some (.val (I (l.map I).length)))) 13 (some (.val (.slice .none 1 (l.map I))))) 5 (some (.loc 5 0))) 4 (some (.loc 4 0))) 1 (some (.val x1)),upd (upd ((fun _=>none)) 5 (some ([.map i0,.map i1]))) 4 (some ([.lit (.map none),.lit (.map none)])),n,v,D,S'⟩):EX (callL p) (.loop F91_l1) ⟨upd (upd (upd (upd (upd (upd ((fun _=>none)) 15 (some (.val (I i)))) 14 (some (.val (I (l.map I).length)))) 13 (some (.val (.slice .none 1 (l.map I))))) 5 (some (.loc 5 0))) 4 (some (.loc 4 0))) 1 (some (.val x1)),upd (upd ((fun _=>none)) 5 (some ([.map i0,.map i1]))) 4 (some ([.lit (.map none),.lit (.map none)])),n,v,D,S⟩ Q:=by
 refine eloop (eseq (ereg (qp rfl (qb ?_))))
 rintro (_ | _) h1
 ·refine qk (kc rfl (kc rfl (kc rfl (kc rfl (kc rfl (kc rfl (kc rfl kn))))))) (kc rfl (kc rfl kn)) (sqn (eseq (ecF rfl (eexit (sqx ?_)))))
  exact hX _ _ (by rw [List.drop_eq_nil_of_le (by simp at h1 ⊢;omega)];exact hS) (Chg.refl _)
 ·refine qk (kc rfl (kc rfl (kc rfl (kc rfl (kc rfl (kc rfl (kc rfl kn))))))) (kc rfl (kc rfl kn)) (sqn (eseq (ecT rfl (eskip (sqn (eseq (eblock (eseq (ereg ?_)))))))))
  have hlt:i < l.length:=by simpa using h1
  obtain ⟨a,ha⟩:=get_of_lt hlt
  have hd:=drop_cons ha
  refine hia (y:=I a) rfl rfl (by omega) (by simp [ha]) rfl (qp rfl (qp rfl (qk (kc rfl (kc rfl (kc rfl (kc rfl (kc rfl (kc rfl (kc rfl kn))))))) (kc rfl (kc rfl kn)) (sqn (ereg (qp rfl (qp rfl (qp rfl (hmu rfl rfl rfl rfl hS.h0 ?_)))))))))
  rw [show (AV.lit (.bool true)).er=B true from rfl,setM_add]
  refine qk (kc rfl (kc rfl (kc rfl (kc rfl (kc rfl (kc rfl kn)))))) (kc rfl (kc rfl kn)) (bqn (sqn (ereg (hadd rfl rfl (i64w (by omega)) (qp rfl (qk (kc rfl (kc rfl (kc rfl (kc rfl (kc rfl (kc rfl kn)))))) (kc rfl (kc rfl kn)) ?_))))))
  have hS1:=hS.add0 a
  have hc1:Chg (IXA i0 i1) S _:=(Chg.refl S).set (i:=i0) (o:=.map (.int .i64) (setM (addV X a))) fun _=>.inl rfl
  exact cNS_l1 l _ A (i + 1) (by omega) hs hS1 (fun j S2 h c=>hX j S2 (by rw [hd];exact h) (hc1.trans c))
termination_by l.length - i
decreasing_by all_goals omega
theorem cNS_l2 {i0 i1:Nat} (l:List Int) (X A:Int → Bool) (i:Nat) (hi:i ≤ l.length) (hs:l.length ≤ 2 ^ 40) {n:Nat} {v:Nat → Bool} {D:List (Nat × List AV)} {S:Sg} {Q:Ex → Fr → Prop}
 (hS:PS i0 i1 X A S) (hX:∀ j S',PS i0 i1 X (setL A (l.drop i)) S' → Chg (IXA i0 i1) S S' → Q (.exit 2) ⟨upd (upd (upd (upd (upd (upd ((fun _=>none)) 26 (some (.val (B false)))) 25 (some (.val (I j)))) 24 (some (.val (I (l.map I).length)))) 23 (some (.val (.slice .none 1 (l.map I))))) 5 (some (.loc 5 0))) 4 (some (.loc 4 0)),upd (upd ((fun _=>none)) 5 (some ([.map i0,.map i1]))) 4 (some ([.lit (.map none),.lit (.map none)])),n,v,D,S'⟩):EX (callL p) (.loop F91_l2) ⟨upd (upd (upd (upd (upd ((fun _=>none)) 25 (some (.val (I i)))) 24 (some (.val (I (l.map I).length)))) 23 (some (.val (.slice .none 1 (l.map I))))) 5 (some (.loc 5 0))) 4 (some (.loc 4 0)),upd (upd ((fun _=>none)) 5 (some ([.map i0,.map i1]))) 4 (some ([.lit (.map none),.lit (.map none)])),n,v,D,S⟩ Q:=by
 refine eloop (eseq (ereg (qp rfl (qb ?_))))
 rintro (_ | _) h1
 ·refine qk (kc rfl (kc rfl (kc rfl (kc rfl (kc rfl (kc rfl kn)))))) (kc rfl (kc rfl kn)) (sqn (eseq (ecF rfl (eexit (sqx ?_)))))
  exact hX _ _ (by rw [List.drop_eq_nil_of_le (by simp at h1 ⊢;omega)];exact hS) (Chg.refl _)
 ·refine qk (kc rfl (kc rfl (kc rfl (kc rfl (kc rfl (kc rfl kn)))))) (kc rfl (kc rfl kn)) (sqn (eseq (ecT rfl (eskip (sqn (eseq (eblock (eseq (ereg ?_)))))))))
  have hlt:i < l.length:=by simpa using h1
  obtain ⟨a,ha⟩:=get_of_lt hlt
  have hd:=drop_cons ha
  refine hia (y:=I a) rfl rfl (by omega) (by simp [ha]) rfl (qp rfl (qp rfl (qk (kc rfl (kc rfl (kc rfl (kc rfl (kc rfl (kc rfl kn)))))) (kc rfl (kc rfl kn)) (sqn (ereg (qp rfl (qp rfl (qp rfl (hmu rfl rfl rfl rfl hS.h1 ?_)))))))))
  rw [show (AV.lit (.bool true)).er=B true from rfl,setM_add]
  refine qk (kc rfl (kc rfl (kc rfl (kc rfl (kc rfl kn))))) (kc rfl (kc rfl kn)) (bqn (sqn (ereg (hadd rfl rfl (i64w (by omega)) (qp rfl (qk (kc rfl (kc rfl (kc rfl (kc rfl (kc rfl kn))))) (kc rfl (kc rfl kn)) ?_))))))
  have hS1:=hS.add1 a
  have hc1:Chg (IXA i0 i1) S _:=(Chg.refl S).set (i:=i1) (o:=.map (.int .i64) (setM (addV A a))) fun _=>.inr rfl
  exact cNS_l2 l X _ (i + 1) (by omega) hs hS1 (fun j S2 h c=>hX j S2 (by rw [hd];exact h) (hc1.trans c))
termination_by l.length - i
decreasing_by all_goals omega
theorem setM_nil:setM (fun _=>false)=fun _=>none:=by
 funext k
 cases k <;> try rfl
 rename_i kd n
 cases kd <;> rfl
theorem ps_init (s:Sg):PS s.nx (s.nx + 1) (fun _=>false) (fun _=>false) ((s.new (.map (.int .i64) fun _=>none)).new (.map (.int .i64) fun _=>none)):=by
 refine ⟨?_,?_,?_,?_,?_⟩
 ·rw [setM_nil,new_lt (by simp only [Sg.new];omega)];exact new_ob
 ·rw [setM_nil];exact new_ob
 all_goals first | (simp only [Sg.new];omega) | omega
theorem cNewScope_c (s:Sg) (xs ys:List Int) (h1:xs.length ≤ 2 ^ 40) (h2:ys.length ≤ 2 ^ 40):HC p N91_ [ints xs,ints ys] s (fun r s'=>∃ i0 i1,r=[.agg [.map i0,.map i1]] ∧ PS i0 i1 (setL (fun _=>false) xs) (setL (fun _=>false) ys) s' ∧ Ext s s' ∧ s.nx ≤ i0 ∧ s.nx ≤ i1):=by
 refine hcf rfl f91_ rfl ?_
 simp only [chainOf]
 refine eseq (ereg (hal (dc (dc dn rfl) rfl) (qk (kc rfl (kc rfl (kc rfl kn))) (kc rfl kn) (sqn (eseq (ereg (hmkm (hmkm (hbuild rfl rfl (lc rfl (lc rfl (ln rfl))) (hal (dc (dc (dc (dc (dc (dc dn rfl) rfl) rfl) rfl) rfl) rfl) (hstl rfl rfl rfl rfl (Nat.le_of_ble_eq_true rfl) (lc rfl (lc rfl (ln rfl))) (qk (kc rfl (kc rfl (kc rfl (kc rfl kn)))) (kc rfl (kc rfl kn)) (sqn (eseq (eseq (ereg (qp rfl (qp rfl (qp rfl (qk (kc rfl (kc rfl (kc rfl (kc rfl (kc rfl (kc rfl kn)))))) (kc rfl (kc rfl kn)) (sqn (eblock (cNS_l1 xs _ _ 0 (by omega) h1 (ps_init s) ?_)))))))))))))))))))))))
 ·intro j S1 hS1 hc1
  refine bqx (sqn (eseq (eseq (ereg (qp rfl (qp rfl (qp rfl (qk (kc rfl (kc rfl (kc rfl (kc rfl (kc rfl kn))))) (kc rfl (kc rfl kn)) (sqn (eblock (cNS_l2 ys _ _ 0 (by omega) h2 hS1 ?_)))))))))))
  ·intro q S2 hS2 hc2
   refine bqx (sqn (eseq (ereg (hlda rfl rfl (lc rfl (lc rfl (ln rfl))) (hstl rfl rfl rfl rfl (Nat.le_of_ble_eq_true rfl) (lc rfl (lc rfl (ln rfl))) (qk (kc rfl kn) (kc rfl kn) (sqn (eret (fqr rfl ?_)))))))))
   have en:(s.new (.map (.int .i64) fun _=>none)).nx=s.nx + 1:=rfl
   exact ⟨_,_,rfl,hS2,((Chg.new (Chg.new (Chg.refl s))).trans (hc1.trans hc2)).ext fun i h=>by rcases h with h | h <;> omega,Nat.le_refl _,by omega⟩
end Go.Sim.Kd
namespace Go.Sim.Kd
open Go Go.Sim
theorem addV_old {X:Int → Bool} {v:Int} (h:X v=true):addV X v=X:=by
 funext n
 unfold addV
 by_cases hn:n=v
 ·subst hn;simp [h]
 ·simp [hn]
def newP (X A:Int → Bool):List Int → List Bool → List (Bool × Int)
 | [],_=>[]
 | v :: vs,cs=>(if (if cs.headD false=true then A else X) v=true then [] else [(cs.headD false,v)]) ++ newP (if cs.headD false=false then addV X v else X) (if cs.headD false=true then addV A v else A) vs cs.tail
def delV (X:Int → Bool) (v:Int):Int → Bool:=fun n=>!decide (n=v) && X n
theorem delV_add {X:Int → Bool} {v:Int} (h:X v=false):delV (addV X v) v=X:=by
 funext n
 unfold delV addV
 by_cases hn:n=v
 ·subst hn;simp [h]
 ·simp [hn]
theorem setM_delV (X:Int → Bool) (v:Int):mset (setM X) (.int .i64 v) none=setM (delV X v):=by
 funext k
 unfold mset
 by_cases h:k=.int .i64 v
 ·subst h;simp [setM,delV]
 ·rw [if_neg h]
  cases k <;> try rfl
  rename_i kd n
  cases kd <;> try rfl
  have hne:n ≠ v:=fun e=>h (by rw [e])
  simp [setM,delV,hne]
abbrev encP (q:Bool × Int):AV:=.agg [I (sideOf q.1),I q.2]
def CanG (g0:Nat) (o:Own) (S:Sg):Prop:=o=.full ∨ ∃ g,o=.gt g ∧ S.gl g=true ∧ g < S.gn ∧ g0 ≤ g
structure EN (g0 bs ba i0 i1:Nat) (X A:Int → Bool) (ad:List (Bool × Int)) (S:Sg):Prop where
 hB:S.ob bs=some (.row [.map i0,.map i1])
 hA:∃ o,S.ob ba=some (.row [.slice o 2 (ad.map encP)]) ∧ CanG g0 o S
 hS:PS i0 i1 X A S
 bl:bs < S.nx
 al:ba < S.nx
 ba':bs ≠ ba
 b0:bs ≠ i0
 b1:bs ≠ i1
 a0:ba ≠ i0
 a1:ba ≠ i1
theorem PS.at {i0 i1:Nat} {X A:Int → Bool} {S:Sg} (h:PS i0 i1 X A S) (c:Bool):S.ob (if c then i1 else i0)=some (.map (.int .i64) (setM (if c then A else X))):=by
 cases c
 ·exact h.h0
 ·exact h.h1
section
variable {c:Caller} {E:Nat → Option TV} {L:Nat → Option (List AV)} {n:Nat} {v:Nat → Bool} {D:List (Nat × List AV)} {S:Sg} {l:List AIns} {Q:Fr → Prop}
theorem hapO {d sz by_ g0:Nat} {s x:AO} {o o':Own} {xs ys r:List AV} (h1:evV E s=some (.slice o sz xs)) (h2:evV E x=some (.slice o' sz ys)) (hc:CanG g0 o S) (hne:ys ≠ []) (hlen:(xs.length + ys.length) * by_ ≤ 2 ^ 47) (hr:xs ++ ys=r)
 (k:∀ v' S',v' n=true → (∀ j,j ≠ n → v' j=v j) → S'.ob=S.ob → S'.nx=S.nx → S'.gn=S.gn → (∀ g,g < g0 → S'.gl g=S.gl g) → S'.Q=S.Q → HL c l ⟨upd E d (some (.val (.slice (.tip n) sz r))),L,n + 1,v',D,S'⟩ Q):HL c (⟨some d,none,.app sz by_ s x⟩ :: l) ⟨E,L,n,v,D,S⟩ Q:=by
 rcases hc with rfl | ⟨g,rfl,hg,_,hg0⟩
 ·subst hr
  exact hapF h1 h2 hne hlen fun v' a b=>k v' S a b rfl rfl rfl (fun _ _=>rfl) rfl
 ·exact hapG h1 h2 hg hne hlen hr fun v' S' a b e1 e2 e3 e4 e5=>k v' S' a b e1 e2 e3 (fun j hj=>e4 j (by omega)) e5
end
theorem EN.old {g0 bs ba i0 i1:Nat} {X A:Int → Bool} {ad:List (Bool × Int)} {S:Sg} (h:EN g0 bs ba i0 i1 X A ad S) {c:Bool} {a:Int} (e:(if c then A else X) a=true) :
 EN g0 bs ba i0 i1 (if c=false then addV X a else X) (if c=true then addV A a else A) (ad ++ (if (if c then A else X) a=true then [] else [(c,a)])) S:=by
 rw [if_pos e,List.append_nil]
 cases c with
 | true=>rw [if_pos rfl,if_neg (by simp),addV_old (by simpa using e)];exact h
 | false=>rw [if_pos rfl,if_neg (by simp),addV_old (by simpa using e)];exact h
theorem newP_cons (X A:Int → Bool) (v:Int) (vs:List Int) (cs:List Bool) (c:Bool) (h:cs.headD false=c):newP X A (v :: vs) cs=(if (if c then A else X) v=true then [] else [(c,v)]) ++ newP (if c=false then addV X v else X) (if c=true then addV A v else A) vs cs.tail:=by
 rw [newP,h]
theorem addsV_cons (w:Bool) (X:Int → Bool) (v:Int) (vs:List Int) (cs:List Bool) (c:Bool) (h:cs.headD false=c):addsV w X (v :: vs) cs=addsV w (if c=w then addV X v else X) vs cs.tail:=by rw [addsV,h]
theorem EN.fin {g0 bs ba i0 i1:Nat} {X A:Int → Bool} {ad:List (Bool × Int)} {S:Sg} {vars:List Int} {cos:List Bool} {i:Nat} {a:Int} {c:Bool} (hd:vars.drop i=a :: vars.drop (i + 1)) (hcd:(cos.drop i).headD false=c)
 (h:EN g0 bs ba i0 i1 (addsV false (if c=false then addV X a else X) (vars.drop (i + 1)) (cos.drop (i + 1))) (addsV true (if c=true then addV A a else A) (vars.drop (i + 1)) (cos.drop (i + 1)))
   (ad ++ (if (if c then A else X) a=true then [] else [(c,a)]) ++ newP (if c=false then addV X a else X) (if c=true then addV A a else A) (vars.drop (i + 1)) (cos.drop (i + 1))) S) :
 EN g0 bs ba i0 i1 (addsV false X (vars.drop i) (cos.drop i)) (addsV true A (vars.drop i) (cos.drop i)) (ad ++ newP X A (vars.drop i) (cos.drop i)) S:=by
 rw [hd,addsV_cons _ _ _ _ _ c hcd,addsV_cons _ _ _ _ _ c hcd,newP_cons _ _ _ _ _ c hcd,List.tail_drop,← List.append_assoc]
 exact h
theorem EN.more {g0 bs ba i0 i1:Nat} {X A:Int → Bool} {ad:List (Bool × Int)} {S S3:Sg} {c:Bool} {a:Int} {g:Nat} (h:EN g0 bs ba i0 i1 X A ad S) (e:(if c then A else X) a=false)
 (f1:S3.ob=upd (S.set (if c then i1 else i0) (.map (.int .i64) (setM (addV (if c then A else X) a)))).ob ba (some (.row [.slice (.gt g) 2 (ad.map encP ++ [.agg [I (sideOf c),I a]])]))) (f2:S3.nx=S.nx) (f3:g < S3.gn) (f4:S3.gl g=true) (f5:g0 ≤ g) :
 EN g0 bs ba i0 i1 (if c=false then addV X a else X) (if c=true then addV A a else A) (ad ++ (if (if c then A else X) a=true then [] else [(c,a)])) S3:=by
 have ho:∀ j,j ≠ ba → S3.ob j=(S.set (if c then i1 else i0) (.map (.int .i64) (setM (addV (if c then A else X) a)))).ob j:=fun j hj=>by rw [f1,upd_ne _ _ hj]
 have hb:∀ j,j ≠ ba → j ≠ (if c then i1 else i0) → S3.ob j=S.ob j:=fun j hj hk=>by rw [ho j hj,set_ne hk]
 refine ⟨?_,⟨.gt g,?_,.inr ⟨g,rfl,f4,f3,f5⟩⟩,?_,by rw [f2];exact h.bl,by rw [f2];exact h.al,h.ba',h.b0,h.b1,h.a0,h.a1⟩
 ·rw [hb bs h.ba' (by cases c;exact h.b0;exact h.b1)];exact h.hB
 ·rw [f1,upd_same,if_neg (by rw [e];simp),List.map_append];rfl
 ·cases c with
  | true=>exact ⟨by rw [hb i0 (Ne.symm h.a0) h.hS.ne];exact h.hS.h0,by rw [ho i1 (Ne.symm h.a1)];exact set_ob,by rw [f2];exact h.hS.l0,by rw [f2];exact h.hS.l1,h.hS.ne⟩
  | false=>exact ⟨by rw [ho i0 (Ne.symm h.a0)];exact set_ob,by rw [hb i1 (Ne.symm h.a1) (Ne.symm h.hS.ne)];exact h.hS.h1,by rw [f2];exact h.hS.l0,by rw [f2];exact h.hS.l1,h.hS.ne⟩
theorem EN.chg {bs ba i0 i1:Nat} {X A:Int → Bool} {ad:List (Bool × Int)} {S0 S S3:Sg} {c:Bool} {o y:AObj} (h:EN S0.gn bs ba i0 i1 X A ad S) (h0:Chg (fun j=>j=ba ∨ j=i0 ∨ j=i1) S0 S)
 (f1:S3.ob=upd (S.set (if c then i1 else i0) o).ob ba (some y)) (f2:S3.nx=S.nx) (f3:S.gn ≤ S3.gn) (f4:∀ g,g < S0.gn → S3.gl g=S.gl g) (f5:S3.Q=S.Q):Chg (fun j=>j=ba ∨ j=i0 ∨ j=i1) S0 S3:=by
 refine ⟨by have:=h0.nx;omega,fun j hj hx=>?_,by have:=h0.gn;omega,fun g hg=>(f4 g hg).trans (h0.gl g hg),f5.trans h0.Q⟩
 rw [f1,upd_ne _ _ (fun e=>hx (.inl e)),set_ne]
 ·exact h0.ob j hj hx
 ·intro e
  cases c
  ·exact hx (.inr (.inl e))
  ·exact hx (.inr (.inr e))
theorem enter_l {bs ba i0 i1:Nat} {S0:Sg} (vars:List Int) (cos:List Bool) (hl:vars.length ≤ cos.length) (X A:Int → Bool) (ad:List (Bool × Int)) (i:Nat) (hi:i ≤ vars.length) (hs:vars.length ≤ 2 ^ 40) {n:Nat} {v:Nat → Bool} {D:List (Nat × List AV)} {S:Sg} {Q:Ex → Fr → Prop}
 (had:ad.length ≤ i) (hE:EN S0.gn bs ba i0 i1 X A ad S) (hc0:Chg (fun j=>j=ba ∨ j=i0 ∨ j=i1) S0 S)
 (hX:∀ j S' n' v',EN S0.gn bs ba i0 i1 (addsV false X (vars.drop i) (cos.drop i)) (addsV true A (vars.drop i) (cos.drop i)) (ad ++ newP X A (vars.drop i) (cos.drop i)) S' → Chg (fun j=>j=ba ∨ j=i0 ∨ j=i1) S0 S' → Q (.exit 0) ⟨upd (upd (upd (upd (upd (upd (upd ((fun _=>none)) 14 (some (.val (B false)))) 13 (some (.val (I j)))) 12 (some (.val (I (vars.map I).length)))) 11 (some (.val (.slice .none 1 (vars.map I))))) 7 (some (.val (.ptr ba 0)))) 3 (some (.val (.ptr bs 0)))) 2 (some (.val (bools cos))),(fun _=>none),n',v',D,S'⟩):EX (callL p) (.loop F92_l1) ⟨upd (upd (upd (upd (upd (upd ((fun _=>none)) 13 (some (.val (I i)))) 12 (some (.val (I (vars.map I).length)))) 11 (some (.val (.slice .none 1 (vars.map I))))) 7 (some (.val (.ptr ba 0)))) 3 (some (.val (.ptr bs 0)))) 2 (some (.val (bools cos))),(fun _=>none),n,v,D,S⟩ Q:=by
 refine eloop (eseq (ereg (qp rfl (qb ?_))))
 rintro (_ | _) h1
 ·refine qk (kc rfl (kc rfl (kc rfl (kc rfl (kc rfl (kc rfl (kc rfl kn))))))) kn (sqn (eseq (ecF rfl (eexit (sqx ?_)))))
  exact hX _ _ _ _ (by rw [List.drop_eq_nil_of_le (by simp at h1 ⊢;omega)];simpa [addsV,newP] using hE) hc0
 ·refine qk (kc rfl (kc rfl (kc rfl (kc rfl (kc rfl (kc rfl (kc rfl kn))))))) kn (sqn (eseq (ecT rfl (eskip (sqn (eseq (eblock (eseq (ereg (qp rfl ?_))))))))))
  have hlt:i < vars.length:=by simpa using h1
  obtain ⟨a,ha⟩:=get_of_lt hlt
  have hd:=drop_cons ha
  refine hia (y:=I a) rfl rfl (by omega) (by simp [ha]) rfl (qp rfl (qp rfl (qp rfl (qk (kc rfl (kc rfl (kc rfl (kc rfl (kc rfl (kc rfl (kc rfl (kc rfl kn)))))))) kn (sqn (eseq (ereg (qp rfl (qp rfl ?_)))))))))
  obtain ⟨c,hc⟩:=get_of_lt (l:=cos) (i:=i) (by omega)
  have hcd:(cos.drop i).headD false=c:=by rw [coAt_drop];unfold coAt;rw [hc];rfl
  refine hia (y:=B c) rfl rfl (by omega) (by simp [hc]) rfl (qp rfl (hcall rfl rfl rfl (cside_c _ c) ?_))
  rintro _ _ ⟨rfl,hq⟩
  obtain rfl:=hq.symm
  refine qp rfl (qk (kc rfl (kc rfl (kc rfl (kc rfl (kc rfl (kc rfl (kc rfl (kc rfl kn)))))))) kn (sqn (eseq (ereg (qp rfl ?_)))))
  refine qp (t:=.val (.ptr bs (0 + (sideOf c).toNat * 1))) (by cases c <;> rfl) ?_
  refine hldo rfl hE.hB (y:=.map (if c then i1 else i0)) (by cases c <;> rfl) ?_
  refine qp rfl (hlk (id:=if c then i1 else i0) (m:=setM (if c then A else X)) rfl rfl rfl (hE.hS.at c) ?_)
  rw [setM_get]
  refine qb ?_
  rintro (_ | _) h2
  ·refine qp rfl (qk (kc rfl (kc rfl (kc rfl (kc rfl (kc rfl (kc rfl (kc rfl (kc rfl (kc rfl kn))))))))) kn (sqn (ecT rfl (eseq (ereg (qp rfl ?_))))))
   refine qp (t:=.val (.ptr bs (0 + (sideOf c).toNat * 1))) (by cases c <;> rfl) ?_
   refine hldo rfl hE.hB (y:=.map (if c then i1 else i0)) (by cases c <;> rfl) ?_
   refine qp rfl (hmu (id:=if c then i1 else i0) (m:=setM (if c then A else X)) rfl rfl rfl rfl (hE.hS.at c) ?_)
   rw [show (AV.lit (.bool true)).er=B true from rfl,setM_add]
   refine qk (kc rfl (kc rfl (kc rfl (kc rfl (kc rfl (kc rfl (kc rfl (kc rfl kn)))))))) kn (sqn (ereg ?_))
   obtain ⟨o,hA,hcan⟩:=hE.hA
   have hne:ba ≠ (if c then i1 else i0):=by cases c;exact hE.a0;exact hE.a1
   refine hldo rfl (by rw [set_ne hne];exact hA) rfl ?_
   refine qp rfl (qp rfl (hbuild rfl rfl (lc rfl (lc rfl (ln rfl))) (hbsl rfl rfl (lc rfl (ln rfl)) (hapO (g0:=S0.gn) rfl rfl hcan (by simp) (by simp;omega) rfl ?_))))
   intro v' S2 hv1 hv2 e1 e2 e3 e4 e5
   refine hstT rfl rfl (by rw [e1,set_ne hne];exact hA) (by simp) hv1 rfl ?_
   intro v'' S3 f1 f2 f3 f4 f5 f6 f7
   refine qk (kc rfl (kc rfl (kc rfl (kc rfl (kc rfl (kc rfl kn)))))) kn (bqn (sqn (ereg (hadd rfl rfl (i64w (by omega)) (qp rfl (qk (kc rfl (kc rfl (kc rfl (kc rfl (kc rfl (kc rfl kn)))))) kn ?_))))))
   first
   | (have h2':(if c=true then A else X) a=true:=h2
      exact enter_l vars cos hl _ _ _ (i + 1) (by omega) hs (by split <;> simp <;> first | omega | (split <;> simp <;> omega)) (hE.old h2') hc0 (fun j S' n' v' h c2=>hX j S' n' v' (EN.fin hd hcd h) c2))
   | (have h2':(if c=true then A else X) a=false:=h2
      have hg:=hc0.gn
      have e3':S2.gn=S.gn:=e3
      have f1':S3.ob=upd (S.set (if c then i1 else i0) (.map (.int .i64) (setM (addV (if c then A else X) a)))).ob ba (some (.row [.slice (.gt S2.gn) 2 (ad.map encP ++ [.agg [I (sideOf c),I a]])])):=by rw [f1,e1];rfl
      have f2':S3.nx=S.nx:=f2.trans e2
      exact enter_l vars cos hl _ _ _ (i + 1) (by omega) hs (by split <;> simp <;> first | omega | (split <;> simp <;> omega)) (hE.more h2' f1' f2' (by omega) f4 (by omega)) (EN.chg (c:=c) hE hc0 f1' f2' (by omega) (fun g hg3=>(f5 g (by omega)).trans (e4 g hg3)) (f6.trans e5)) (fun j S' n' v' h c2=>hX j S' n' v' (EN.fin hd hcd h) c2))
  ·refine qp rfl (qk (kc rfl (kc rfl (kc rfl (kc rfl (kc rfl (kc rfl (kc rfl (kc rfl (kc rfl kn))))))))) kn (sqn (ecF rfl (eskip (bqn (sqn (ereg (hadd rfl rfl (i64w (by omega)) (qp rfl (qk (kc rfl (kc rfl (kc rfl (kc rfl (kc rfl (kc rfl kn)))))) kn ?_))))))))))
   first
   | (have h2':(if c=true then A else X) a=true:=h2
      exact enter_l vars cos hl _ _ _ (i + 1) (by omega) hs (by split <;> simp <;> first | omega | (split <;> simp <;> omega)) (hE.old h2') hc0 (fun j S' n' v' h c2=>hX j S' n' v' (EN.fin hd hcd h) c2))
   | (have h2':(if c=true then A else X) a=false:=h2
      have hg:=hc0.gn
      have e3':S2.gn=S.gn:=e3
      have f1':S3.ob=upd (S.set (if c then i1 else i0) (.map (.int .i64) (setM (addV (if c then A else X) a)))).ob ba (some (.row [.slice (.gt S2.gn) 2 (ad.map encP ++ [.agg [I (sideOf c),I a]])])):=by rw [f1,e1];rfl
      have f2':S3.nx=S.nx:=f2.trans e2
      exact enter_l vars cos hl _ _ _ (i + 1) (by omega) hs (by split <;> simp <;> first | omega | (split <;> simp <;> omega)) (hE.more h2' f1' f2' (by omega) f4 (by omega)) (EN.chg (c:=c) hE hc0 f1' f2' (by omega) (fun g hg3=>(f5 g (by omega)).trans (e4 g hg3)) (f6.trans e5)) (fun j S' n' v' h c2=>hX j S' n' v' (EN.fin hd hcd h) c2))
termination_by vars.length - i
decreasing_by all_goals omega
theorem en_init {i0 i1:Nat} {X A:Int → Bool} (s:Sg) (hS:PS i0 i1 X A s):EN s.gn s.nx (s.new (.row [.map i0,.map i1])).nx i0 i1 X A [] ((s.new (.row [.map i0,.map i1])).new (.row [.slice .full 2 []])):=by
 have e:(s.new (.row [.map i0,.map i1])).nx=s.nx + 1:=rfl
 have e2:((s.new (.row [.map i0,.map i1])).new (.row [.slice .full 2 []])).nx=s.nx + 2:=rfl
 have l0:=hS.l0
 have l1:=hS.l1
 have hl:∀ j,j < s.nx → ((s.new (.row [.map i0,.map i1])).new (.row [.slice .full 2 []])).ob j=s.ob j:=fun j hj=>by rw [new_lt (by omega),new_lt hj]
 refine ⟨?_,⟨.full,?_,.inl rfl⟩,⟨?_,?_,by omega,by omega,hS.ne⟩,by omega,by omega,by omega,by omega,by omega,by omega,by omega⟩
 ·rw [new_lt (by omega)];exact new_ob
 ·rw [new_ob];rfl
 ·rw [hl i0 l0];exact hS.h0
 ·rw [hl i1 l1];exact hS.h1
theorem enter_c (s:Sg) (i0 i1:Nat) (X A:Int → Bool) (vars:List Int) (cos:List Bool) (hl:vars.length ≤ cos.length) (hs:vars.length ≤ 2 ^ 40) (hS:PS i0 i1 X A s):HC p N92_ [.agg [.map i0,.map i1],ints vars,bools cos] s (fun r s'=>∃ bs ba,r=[.fn N145_ [] [.ptr ba 0,.ptr bs 0]] ∧ EN s.gn bs ba i0 i1 (addsV false X vars cos) (addsV true A vars cos) (newP X A vars cos) s' ∧ Chg (IXA i0 i1) s s' ∧ s.nx ≤ bs ∧ s.nx ≤ ba):=by
 refine hcf rfl f92_ rfl ?_
 simp only [chainOf]
 refine eseq (ereg (hboxo rfl (lc rfl (lc rfl (ln rfl))) (qp rfl (qk (kc rfl (kc rfl (kc rfl kn))) kn (sqn (eseq (ereg (hall (qk (kc rfl (kc rfl (kc rfl (kc rfl kn)))) kn (sqn (eseq (eseq (ereg (qp rfl (qp rfl (qp rfl (qk (kc rfl (kc rfl (kc rfl (kc rfl (kc rfl (kc rfl kn)))))) kn (sqn (eblock (enter_l vars cos hl X A [] 0 (by omega) hs (by simp) (en_init s hS) ((Chg.new (Chg.new (Chg.refl s))).mono fun i _ h=>h) ?_))))))))))))))))))))
 ·intro j S1 n1 v1 hE hc
  refine bqx (sqn (eseq (ereg (qp rfl (qp rfl (qk (kc rfl kn) kn (sqn (eret (fqr rfl ?_)))))))))
  exact ⟨_,_,rfl,hE,hc.mono (fun i hi h=>by rcases h with h | h;exact absurd h (by show i ≠ s.nx + 1;omega);exact h),Nat.le_refl _,Nat.le_succ _⟩
def delP (w:Bool) (X:Int → Bool) (l:List (Bool × Int)):Int → Bool:=fun n=>X n && !(l.any fun q=>decide (q=(w,n)))
theorem delP_cons (w:Bool) (X:Int → Bool) (q:Bool × Int) (l:List (Bool × Int)):delP w X (q :: l)=delP w (if q.1=w then delV X q.2 else X) l:=by
 obtain ⟨c,v⟩:=q
 funext n
 unfold delP delV
 by_cases h:c=w
 ·subst h
  by_cases hn:n=v
  ·subst hn;simp
  ·have:¬ v=n:=fun e=>hn e.symm
   simp [hn,this]
 ·simp [h]
theorem delP_nil (w:Bool) (X:Int → Bool):delP w X []=X:=by
 funext n
 simp [delP]
theorem addsV_or {w:Bool}:∀ (vars:List Int) (cos:List Bool) (X:Int → Bool) (n:Int),X n=true → addsV w X vars cos n=true
 | [],_,X,n,h=>by simpa [addsV] using h
 | v :: vs,cs,X,n,h=>by
   rw [addsV]
   apply addsV_or
   split
   ·simp [addV,h]
   ·exact h
theorem newP_any {w:Bool}:∀ (vars:List Int) (cos:List Bool) (X A:Int → Bool) (n:Int),((newP X A vars cos).any fun q=>decide (q=(w,n)))=(!(if w then A else X) n && addsV w (if w then A else X) vars cos n)
 | [],_,X,A,n=>by simp [newP,addsV]
 | v :: vs,cs,X,A,n=>by
   rw [newP_cons X A v vs cs _ rfl,addsV_cons w _ v vs cs _ rfl,List.any_append,newP_any vs cs.tail]
   generalize cs.headD false=c
   by_cases hc:c=w
   ·subst hc
    have e1:(if c=true then (if c=true then addV A v else A) else (if c=false then addV X v else X))=addV (if c=true then A else X) v:=by cases c <;> rfl
    rw [e1,if_pos rfl]
    by_cases hv:(if c=true then A else X) v=true
    ·rw [if_pos hv,addV_old hv];rfl
    ·rw [if_neg hv]
     have hv':(if c=true then A else X) v=false:=by simpa using hv
     by_cases hn:n=v
     ·subst hn
      have:=addsV_or (w:=c) vs cs.tail (addV (if c=true then A else X) n) n (by simp [addV])
      rw [hv',this]
      simp
     ·have h2:¬ v=n:=fun e=>hn e.symm
      simp [addV,hn,h2]
   ·have e1:(if w=true then (if c=true then addV A v else A) else (if c=false then addV X v else X))=(if w=true then A else X):=by cases c <;> cases w <;> simp_all
    rw [e1,if_neg hc]
    have h2:((if (if c=true then A else X) v=true then [] else [(c,v)]).any fun q=>decide (q=(w,n)))=false:=by
     by_cases hv:(if c=true then A else X) v=true
     ·rw [if_pos hv];rfl
     ·rw [if_neg hv]
      have:¬ ((c,v):Bool × Int)=(w,n):=fun e=>hc (by cases e;rfl)
      simp only [List.any_cons,List.any_nil,decide_eq_false this,Bool.or_false]
    rw [h2,Bool.false_or]
theorem delP_newP (w:Bool) (X A:Int → Bool) (vars:List Int) (cos:List Bool):delP w (addsV w (if w then A else X) vars cos) (newP X A vars cos)=if w then A else X:=by
 funext n
 unfold delP
 rw [newP_any]
 cases h:(if w=true then A else X) n with
 | true=>rw [addsV_or _ _ _ _ h];rfl
 | false=>cases addsV w (if w=true then A else X) vars cos n <;> rfl
theorem leave_l {bs i0 i1:Nat} {o:Own} (ad:List (Bool × Int)) (X A:Int → Bool) (i:Nat) (hi:i ≤ ad.length) (hs:ad.length ≤ 2 ^ 40) {n:Nat} {v:Nat → Bool} {D:List (Nat × List AV)} {S:Sg} {Q:Ex → Fr → Prop}
 (hB:S.ob bs=some (.row [.map i0,.map i1])) (hS:PS i0 i1 X A S) (b0:bs ≠ i0) (b1:bs ≠ i1)
 (hX:∀ j S',PS i0 i1 (delP false X (ad.drop i)) (delP true A (ad.drop i)) S' → Chg (IXA i0 i1) S S' → Q (.exit 0) ⟨upd (upd (upd (upd (upd ((fun _=>none)) 7 (some (.val (B false)))) 6 (some (.val (I j)))) 5 (some (.val (I (ad.map encP).length)))) 4 (some (.val (.slice o 2 (ad.map encP))))) 1 (some (.val (.ptr bs 0))),(fun _=>none),n,v,D,S'⟩):EX (callL p) (.loop F145_l1) ⟨upd (upd (upd (upd ((fun _=>none)) 6 (some (.val (I i)))) 5 (some (.val (I (ad.map encP).length)))) 4 (some (.val (.slice o 2 (ad.map encP))))) 1 (some (.val (.ptr bs 0))),(fun _=>none),n,v,D,S⟩ Q:=by
 refine eloop (eseq (ereg (qp rfl (qb ?_))))
 rintro (_ | _) h1
 ·refine qk (kc rfl (kc rfl (kc rfl (kc rfl (kc rfl kn))))) kn (sqn (eseq (ecF rfl (eexit (sqx ?_)))))
  exact hX _ _ (by rw [List.drop_eq_nil_of_le (by simp at h1 ⊢;omega),delP_nil,delP_nil];exact hS) (Chg.refl _)
 ·refine qk (kc rfl (kc rfl (kc rfl (kc rfl (kc rfl kn))))) kn (sqn (eseq (ecT rfl (eskip (sqn (eseq (eblock (eseq (ereg ?_)))))))))
  have hlt:i < ad.length:=by simpa using h1
  obtain ⟨a,ha⟩:=get_of_lt hlt
  have hd:=drop_cons ha
  refine hia (y:=encP a) rfl rfl (by omega) (by simp [ha]) rfl ?_
  obtain ⟨w,x⟩:=a
  refine hlda rfl rfl (lc rfl (lc rfl (ln rfl))) (hal (dc (dc (dc (dc (dc (dc (dc dn rfl) rfl) rfl) rfl) rfl) rfl) rfl) (hstl rfl rfl rfl rfl (Nat.le_of_ble_eq_true rfl) (lc rfl (lc rfl (ln rfl))) (qk (kc rfl (kc rfl (kc rfl (kc rfl (kc rfl kn))))) (kc rfl kn) (sqn (ereg (qp rfl (qp rfl ?_)))))))
  refine qp (t:=.val (.ptr bs (0 + (sideOf w).toNat * 1))) (by cases w <;> rfl) ?_
  refine hldo rfl hB (y:=.map (if w then i1 else i0)) (by cases w <;> rfl) ?_
  refine qp rfl (qp rfl (hdl (id:=if w then i1 else i0) (m:=setM (if w then A else X)) rfl rfl rfl (hS.at w) ?_))
  rw [setM_delV]
  refine qk (kc rfl (kc rfl (kc rfl (kc rfl kn)))) kn (bqn (sqn (ereg (hadd rfl rfl (i64w (by omega)) (qp rfl (qk (kc rfl (kc rfl (kc rfl (kc rfl kn)))) kn ?_))))))
  have hX':=hX
  rw [hd,delP_cons,delP_cons] at hX'
  have him:bs ≠ (if w then i1 else i0):=by cases w;exact b0;exact b1
  refine leave_l ad (if w=false then delV X x else X) (if w=true then delV A x else A) (i + 1) (by omega) hs (by rw [set_ne him];exact hB) ?_ b0 b1 (fun j S' h c=>hX' j S' h (Chg.trans ((Chg.refl S).set (fun _=>by cases w;exact .inl rfl;exact .inr rfl)) c))
  cases w with
  | true=>exact ⟨by rw [if_pos rfl,set_ne hS.ne];exact hS.h0,set_ob,hS.l0,hS.l1,hS.ne⟩
  | false=>exact ⟨set_ob,by rw [if_neg (by simp),set_ne (Ne.symm hS.ne)];exact hS.h1,hS.l0,hS.l1,hS.ne⟩
termination_by ad.length - i
decreasing_by all_goals omega
theorem leave_c (s:Sg) (bs ba i0 i1:Nat) (X A:Int → Bool) (o:Own) (ad:List (Bool × Int)) (hz:ad.length ≤ 2 ^ 40) (hB:s.ob bs=some (.row [.map i0,.map i1])) (hA:s.ob ba=some (.row [.slice o 2 (ad.map encP)])) (hS:PS i0 i1 X A s) (b0:bs ≠ i0) (b1:bs ≠ i1):HC p N145_ [.ptr ba 0,.ptr bs 0] s (fun r s'=>r=[] ∧ PS i0 i1 (delP false X ad) (delP true A ad) s' ∧ Chg (IXA i0 i1) s s'):=by
 refine hcf rfl f145_ rfl ?_
 simp only [chainOf]
 refine eseq (ereg (hldo rfl hA rfl ?_))
 refine qp rfl (qp rfl (qk (kc rfl (kc rfl (kc rfl (kc rfl kn)))) kn (sqn (eblock (leave_l ad X A 0 (by omega) hz hB hS b0 b1 ?_)))))
 ·intro j S1 hS1 hc
  refine bqx (fqn rfl ?_)
  exact ⟨rfl,hS1,hc⟩
end Go.Sim.Kd
