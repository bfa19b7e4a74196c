/-
  A part of a proof: see the last text of this claim.
-/
import Derived.Test.YtponmhjjmbhocaaPG
set_option linter.unusedVariables false
set_option linter.unusedSimpArgs false
namespace Go.Sim.Kd
open Go Go.Sim
theorem sub_c (j:RI) (T:Bool → Int → Bool) (L:Bool → List Int) (hL:∀ w x,T w x=true → x ∈ L w) (K:Nat) (hK:1 ≤ K) (hK2:K ≤ 2 ^ 40) (a:Node) (hz:a.sz ≤ 2 ^ 30):SubC j T L K a:=by
 induction a using Node.ind with
 | h a ih1 ih2 =>
   refine fun s M pp l c=>sub_c0 j T L hL K hK hK2 a hz (fun b hb=>ih1 b hb (by have:=Node.sz_arg hb;omega)) (fun b hb=>fun s M pp l c=>?_) s M pp l c
   have h1:=Node.sz_br hb
   have h2:=b.sz_body
   exact branch_c j T L hL K hK b (by omega) (ih2 b hb (by omega)) s M pp l c
def addsK (w:Bool) (X:Int → Int):List Int → List Bool → Int → (Int → Int)
 | [],_,_=>X
 | v :: vs,cs,k=>addsK w (if cs.headD false=w then addK X v k else X) vs cs.tail k
theorem Bn.le {X:Int → Int} {k b:Int} (h:Bn X k) (hb:k ≤ b):Bn X b:=fun n=>by have:=h n;omega
theorem Bn.adds {w:Bool}:∀ {vars:List Int} {b:Int} {cos:List Bool} {X:Int → Int},Bn X b → Bn (addsK w X vars cos 1) (b + vars.length) ∧ ∀ v,addsK w X vars cos 1 v=0 ↔ X v=0 ∧ bnd w vars cos v=false
 | [],b,cos,X,h=>⟨h.le (by simp),fun v=>by simp [addsK,bnd]⟩
 | u :: vs,b,cos,X,h=>by
   rw [addsK]
   by_cases hw:cos.headD false=w
   ·rw [if_pos hw]
    obtain ⟨h1,h2⟩:=Bn.adds (w:=w) (vars:=vs) (cos:=cos.tail) (h.add (v:=u))
    refine ⟨h1.le (by simp only [List.length_cons];omega),fun v=>?_⟩
    rw [h2,bnd,decide_eq_true hw]
    have:=h v
    unfold addK
    by_cases hv:v=u
    ·subst hv
     simp
     omega
    simp [hv]
   rw [if_neg hw]
   obtain ⟨h1,h2⟩:=Bn.adds (w:=w) (vars:=vs) (cos:=cos.tail) h
   refine ⟨h1.le (by simp only [List.length_cons];omega),fun v=>?_⟩
   rw [h2,bnd,decide_eq_false hw]
   simp
theorem addK_back (X:Int → Int) (v:Int):addK (addK X v 1) v (-1)=X:=by
 funext n
 unfold addK
 by_cases h:n=v <;> simp [h] <;> omega
theorem addK_comm (X:Int → Int) (v w a b:Int):addK (addK X v a) w b=addK (addK X w b) v a:=by
 funext n
 unfold addK
 by_cases h:n=v <;> by_cases h':n=w <;> simp [h,h'] <;> (try split) <;> omega
theorem addsK_addK {w:Bool} {k a v:Int}:∀ (vars:List Int) (cos:List Bool) (X:Int → Int),addsK w (addK X v a) vars cos k=addK (addsK w X vars cos k) v a
 | [],_,_=>rfl
 | u :: vars,cos,X=>by
   simp only [addsK]
   by_cases hw:cos.headD false=w
   ·simp only [if_pos hw]
    rw [addK_comm,addsK_addK vars]
   simp only [if_neg hw]
   exact addsK_addK vars cos.tail X
theorem addsK_back {w:Bool}:∀ (vars:List Int) (cos:List Bool) (X:Int → Int),addsK w (addsK w X vars cos 1) vars cos (-1)=X
 | [],_,_=>rfl
 | v :: vars,cos,X=>by
   simp only [addsK]
   by_cases hw:cos.headD false=w
   ·simp only [if_pos hw]
    rw [addsK_addK vars,addsK_addK vars,addsK_addK vars,addK_back,addsK_back vars]
   simp only [if_neg hw]
   exact addsK_back vars cos.tail X
abbrev CN:=Bool → Int → Int
def addM (C:CN) (w:Bool) (v k:Int):CN:=fun w'=>if w'=w then addK (C w') v k else C w'
def addsM (C:CN) (vs:List Int) (cs:List Bool) (k:Int):CN:=fun w=>addsK w (C w) vs cs k
theorem addsM_cons (C:CN) (v:Int) (vs:List Int) (cs:List Bool) (k:Int):addsM C (v :: vs) cs k=addsM (addM C (cs.headD false) v k) vs cs.tail k:=by
 funext w
 simp only [addsM,addsK,addM]
 by_cases h:cs.headD false=w
 ·rw [if_pos h,if_pos h.symm]
 rw [if_neg h,if_neg (Ne.symm h)]
theorem addsM_back (C:CN) (vs:List Int) (cs:List Bool):addsM (addsM C vs cs 1) vs cs (-1)=C:=funext fun _=>addsK_back ..
theorem addM_back (C:CN) (w:Bool) (v:Int):addM (addM C w v 1) w v (-1)=C:=by
 funext w'
 unfold addM
 by_cases h:w'=w
 ·rw [if_pos h,if_pos h,addK_back]
 rw [if_neg h,if_neg h]
def Bd2 (C:CN) (k:Int):Prop:=∀ w n,-k ≤ C w n ∧ C w n ≤ k
theorem Bd2.add {C:CN} {b v k:Int} {w:Bool} (h:Bd2 C b) (hk:-1 ≤ k ∧ k ≤ 1):Bd2 (addM C w v k) (b + 1):=by
 intro w' n
 have:=h w' n
 unfold addM addK
 split
 ·show -(b + 1) ≤ (if n=v then C w' n + k else C w' n) ∧ (if n=v then C w' n + k else C w' n) ≤ b + 1
  split <;> omega
 omega
theorem cntM_get (c:Int → Option Int) (v:Int):(cntM c (.int .i64 v)).getD (I 0)=I ((c v).getD 0):=by
 simp only [cntM]
 cases c v <;> rfl
structure GJ where
 c0:Nat
 c1:Nat
 o0:Nat
 o1:Nat
def GJ.c (j:GJ) (w:Bool):Nat:=if w then j.c1 else j.c0
def GJ.o (j:GJ) (w:Bool):Nat:=if w then j.o1 else j.o0
def GJ.X (j:GJ) (i:Nat):Prop:=∃ w,i=j.c w ∨ i=j.o w
structure GS (j:GJ) (C:CN) (O:Bool → Int → Bool) (S:Sg):Prop where
 hc:∀ w,∃ c,S.ob (j.c w)=some (.map (.int .i64) (cntM c)) ∧ ∀ n,(c n).getD 0=C w n
 ho:∀ w,S.ob (j.o w)=some (.map (.int .i64) (setM (O w)))
 cl:∀ w,j.c w < S.nx
 ol:∀ w,j.o w < S.nx
 cc:j.c0 ≠ j.c1
 oo:j.o0 ≠ j.o1
 co:∀ w w',j.c w ≠ j.o w'
theorem GJ.cne {j:GJ} (h:j.c0 ≠ j.c1) {w w':Bool} (hw:w' ≠ w):j.c w' ≠ j.c w:=by
 cases w <;> cases w' <;> simp_all [GJ.c]
 exact Ne.symm h
theorem GJ.one {j:GJ} (h:j.o0 ≠ j.o1) {w w':Bool} (hw:w' ≠ w):j.o w' ≠ j.o w:=by
 cases w <;> cases w' <;> simp_all [GJ.o]
 exact Ne.symm h
theorem GS.add {j:GJ} {C:CN} {O:Bool → Int → Bool} {S:Sg} (h:GS j C O S) {w:Bool} {c:Int → Option Int} (hv:∀ n,(c n).getD 0=C w n) (v k:Int) :
 GS j (addM C w v k) O (S.set (j.c w) (.map (.int .i64) (mset (cntM c) (.int .i64 v) (some (I ((c v).getD 0 + k)))))):=by
 refine ⟨fun w'=>?_,fun w'=>(set_ne (Ne.symm (h.co w w'))).trans (h.ho w'),h.cl,h.ol,h.cc,h.oo,h.co⟩
 by_cases e:w'=w
 ·subst e
  refine ⟨_,by rw [set_ob,cntM_set],fun n=>?_⟩
  simp only [addM,addK,if_true]
  by_cases e2:n=v
  ·subst e2;simp [hv]
  simp [e2,hv]
 obtain ⟨c',h1,h2⟩:=h.hc w'
 refine ⟨c',(set_ne (GJ.cne h.cc e)).trans h1,fun n=>?_⟩
 simp only [addM,if_neg e]
 exact h2 n
def putO (O:Bool → Int → Bool) (w:Bool) (v:Int):Bool → Int → Bool:=fun w'=>if w'=w then addV (O w') v else O w'
theorem GS.put {j:GJ} {C:CN} {O:Bool → Int → Bool} {S:Sg} (h:GS j C O S) (w:Bool) (v:Int):GS j C (putO O w v) (S.set (j.o w) (.map (.int .i64) (setM (addV (O w) v)))):=by
 refine ⟨fun w'=>?_,fun w'=>?_,h.cl,h.ol,h.cc,h.oo,h.co⟩
 ·obtain ⟨c',h1,h2⟩:=h.hc w'
  exact ⟨c',(set_ne (h.co w' w)).trans h1,h2⟩
 unfold putO
 by_cases e:w'=w
 ·subst e;rw [if_pos rfl];exact set_ob
 rw [if_neg e];exact (set_ne (GJ.one h.oo e)).trans (h.ho w')
theorem GJ.Xc (j:GJ) (w:Bool):j.X (j.c w):=⟨w,.inl rfl⟩
theorem GJ.Xo (j:GJ) (w:Bool):j.X (j.o w):=⟨w,.inr rfl⟩
def addF (O:Bool → Int → Bool) (C:CN) (G:Bool → Int → Bool):Bool → Int → Bool:=fun w v=>O w v || (decide (C w v=0) && G w v)
theorem addF_no (O:Bool → Int → Bool) (C:CN):addF O C (fun _ _=>false)=O:=by
 funext w v
 simp [addF]
theorem addF_or (O:Bool → Int → Bool) (C:CN) (G H:Bool → Int → Bool):addF (addF O C G) C H=addF O C fun w v=>G w v || H w v:=by
 funext w v
 simp only [addF]
 cases O w v <;> cases decide (C w v=0) <;> cases G w v <;> rfl
theorem addF_bound {O:Bool → Int → Bool} {C C1:CN} {G B':Bool → Int → Bool} (h:∀ w v,C1 w v=0 ↔ C w v=0 ∧ B' w v=false):addF O C1 G=addF O C fun w v=>G w v && !B' w v:=by
 funext w v
 simp only [addF]
 have:=h w v
 by_cases h1:C w v=0 <;> cases h2:B' w v <;> simp [h1,h2] at this <;> simp [h1,this]
def GaC (j:GJ) (a:Node):Prop:=∀ (s:Sg) (C:CN) (O:Bool → Int → Bool) (c:Nat),GS j C O s → (∀ w,Bn (C w) c) → c + nBd a ≤ 2 ^ 40 →
 HC p N59_ [.agg a.cs,.agg [.map j.c0,.map j.c1],.agg [.map j.o0,.map j.o1]] s (fun r s'=>r=[] ∧ GS j C (addF O C (frN a)) s' ∧ Ch j.X s s')
theorem Bd2.le {C:CN} {k b:Int} (h:Bd2 C k) (hb:k ≤ b):Bd2 C b:=fun w n=>by have:=h w n;omega
theorem gat_l3 (j:GJ) (b:Br) (hco:b.co.length ≤ 2 ^ 40) (hv:b.vars.length ≤ 2 ^ 40) (u83 u84 u85:AV) (O:Bool → Int → Bool) (i:Nat) (hi:i ≤ b.vars.length) (C:CN) {n:Nat} {v:Nat → Bool} {D:List (Nat × List AV)} {S:Sg} {Q:Ex → Fr → Prop} (hS:GS j C O S) (hB:Bd2 C (2 ^ 50 + i))
 (hX:∀ k S',GS j (addsM C (b.vars.drop i) (b.co.drop i) 1) O S' → Ch j.X S S' → Q (.exit 5) ⟨upd (upd (upd (uv (uv (uv (uv (uv (uv (uv e0 93 (B false)) 92 (I k)) 91 (I (b.vars.map I).length)) 90 (ints b.vars)) 85 (u85)) 84 (u84)) 83 (u83)) 14 (some (.loc 14 0))) 5 (some (.loc 5 0))) 4 (some (.loc 4 0)),upd (upd (upd ((fun _=>none)) 14 (some (ints b.vars :: bools b.co :: b.body.cs))) 5 (some ([.map j.o0,.map j.o1]))) 4 (some ([.map j.c0,.map j.c1])),n,v,D,S'⟩):EX (callL p) (.loop F59_l3) ⟨upd (upd (upd (uv (uv (uv (uv (uv (uv e0 92 (I i)) 91 (I (b.vars.map I).length)) 90 (ints b.vars)) 85 (u85)) 84 (u84)) 83 (u83)) 14 (some (.loc 14 0))) 5 (some (.loc 5 0))) 4 (some (.loc 4 0)),upd (upd (upd ((fun _=>none)) 14 (some (ints b.vars :: bools b.co :: b.body.cs))) 5 (some ([.map j.o0,.map j.o1]))) 4 (some ([.map j.c0,.map j.c1])),n,v,D,S⟩ Q:=by
 refine eloop (er (qp J (qb ?_)))
 rintro (_ | _) h1
 ·refine qn (kq10 J) (kq3 J) (eseq (ecF J (eexit (sqx ?_))))
  refine hX _ _ ?_ (Ch.refl _)
  rw [List.drop_eq_nil_of_le (by simp at h1 ⊢;omega)]
  exact hS
 refine qn (kq10 J) (kq3 J) (eseq (ecT J (eskip (sqn (eseq (eblock (er (qp J ?_))))))))
 have hlt:i < b.vars.length:=by simpa using h1
 obtain ⟨x,hx⟩:=get_of_lt hlt
 have hd:=drop_cons hx
 refine hia (y:=I x) rfl rfl (by omega) (by simp [hx]) rfl (qp rfl (qp rfl (qp rfl (qk (kc rfl (kc rfl (kc rfl (kc rfl (kc rfl (kc rfl (kc rfl (kc rfl (kc rfl (kc rfl (kc rfl kn))))))))))) (kc rfl (kc rfl (kc rfl kn))) (sqn (ereg (hlda rfl rfl (lc rfl (lc rfl (lc rfl (lc rfl (lc rfl (lc rfl (lc rfl (ln rfl)))))))) (qp rfl (hcall rfl rfl rfl (co_c _ b hco i) ?_)))))))))
 rintro _ _ ⟨rfl,hq⟩
 obtain rfl:=hq.symm
 generalize hw:coAt b.co i=w
 refine hcall J J J (cside_c _ w) ?_
 rintro _ _ ⟨rfl,hq⟩
 obtain rfl:=hq.symm
 refine qp (t:=.loc 4 (0 + (sideOf w).toNat * 1)) (by cases w <;> rfl) ?_
 refine qp (t:=.val (.map (j.c w))) (by cases w <;> rfl) ?_
 refine qp J ?_
 obtain ⟨cc,hcc,hcv⟩:=hS.hc w
 refine hlk (id:=j.c w) (m:=cntM cc) rfl rfl rfl hcc ?_
 rw [cntM_get]
 have hb1:=hB w x
 rw [← hcv x] at hb1
 refine hadd (r:=(cc x).getD 0 + 1) rfl rfl (i64w (by omega)) (hmu (id:=j.c w) (m:=cntM cc) rfl rfl rfl rfl hcc ?_)
 have hS1:=hS.add (w:=w) hcv x 1
 refine qk (kq9 J) (kq3 J) (bqn (sqn (ereg (hadd J J (i64w (by omega)) (qp J (qk (kq9 J) (kq3 J) ?_))))))
 refine gat_l3 j b hco hv u83 u84 u85 O (i + 1) (by omega) _ hS1 ((hB.add (by omega)).le (by omega)) fun k S' h c=>hX k S' ?_ ((Ch.set (Ch.refl _) (fun _=>j.Xc w) _).trans c)
 rw [hd,addsM_cons,coAt_drop,hw,List.tail_drop]
 exact h
termination_by b.vars.length - i
decreasing_by all_goals omega
theorem gat_l4 (j:GJ) (b:Br) (hco:b.co.length ≤ 2 ^ 40) (hv:b.vars.length ≤ 2 ^ 40) (u83 u84 u85:AV) (O:Bool → Int → Bool) (i:Nat) (hi:i ≤ b.vars.length) (C:CN) {n:Nat} {v:Nat → Bool} {D:List (Nat × List AV)} {S:Sg} {Q:Ex → Fr → Prop} (hS:GS j C O S) (hB:Bd2 C (2 ^ 50 + i))
 (hX:∀ k S',GS j (addsM C (b.vars.drop i) (b.co.drop i) (-1)) O S' → Ch j.X S S' → Q (.exit 7) ⟨upd (upd (upd (uv (uv (uv (uv (uv (uv (uv e0 116 (B false)) 115 (I k)) 114 (I (b.vars.map I).length)) 113 (ints b.vars)) 85 (u85)) 84 (u84)) 83 (u83)) 14 (some (.loc 14 0))) 5 (some (.loc 5 0))) 4 (some (.loc 4 0)),upd (upd (upd ((fun _=>none)) 14 (some (ints b.vars :: bools b.co :: b.body.cs))) 5 (some ([.map j.o0,.map j.o1]))) 4 (some ([.map j.c0,.map j.c1])),n,v,D,S'⟩):EX (callL p) (.loop F59_l4) ⟨upd (upd (upd (uv (uv (uv (uv (uv (uv e0 115 (I i)) 114 (I (b.vars.map I).length)) 113 (ints b.vars)) 85 (u85)) 84 (u84)) 83 (u83)) 14 (some (.loc 14 0))) 5 (some (.loc 5 0))) 4 (some (.loc 4 0)),upd (upd (upd ((fun _=>none)) 14 (some (ints b.vars :: bools b.co :: b.body.cs))) 5 (some ([.map j.o0,.map j.o1]))) 4 (some ([.map j.c0,.map j.c1])),n,v,D,S⟩ Q:=by
 refine eloop (er (qp J (qb ?_)))
 rintro (_ | _) h1
 ·refine qn (kq10 J) (kq3 J) (eseq (ecF J (eexit (sqx ?_))))
  refine hX _ _ ?_ (Ch.refl _)
  rw [List.drop_eq_nil_of_le (by simp at h1 ⊢;omega)]
  exact hS
 refine qn (kq10 J) (kq3 J) (eseq (ecT J (eskip (sqn (eseq (eblock (er (qp J ?_))))))))
 have hlt:i < b.vars.length:=by simpa using h1
 obtain ⟨x,hx⟩:=get_of_lt hlt
 have hd:=drop_cons hx
 refine hia (y:=I x) rfl rfl (by omega) (by simp [hx]) rfl (qp rfl (qp rfl (qp rfl (qk (kc rfl (kc rfl (kc rfl (kc rfl (kc rfl (kc rfl (kc rfl (kc rfl (kc rfl (kc rfl (kc rfl kn))))))))))) (kc rfl (kc rfl (kc rfl kn))) (sqn (ereg (hlda rfl rfl (lc rfl (lc rfl (lc rfl (lc rfl (lc rfl (lc rfl (lc rfl (ln rfl)))))))) (qp rfl (hcall rfl rfl rfl (co_c _ b hco i) ?_)))))))))
 rintro _ _ ⟨rfl,hq⟩
 obtain rfl:=hq.symm
 generalize hw:coAt b.co i=w
 refine hcall J J J (cside_c _ w) ?_
 rintro _ _ ⟨rfl,hq⟩
 obtain rfl:=hq.symm
 refine qp (t:=.loc 4 (0 + (sideOf w).toNat * 1)) (by cases w <;> rfl) ?_
 refine qp (t:=.val (.map (j.c w))) (by cases w <;> rfl) ?_
 refine qp J ?_
 obtain ⟨cc,hcc,hcv⟩:=hS.hc w
 refine hlk (id:=j.c w) (m:=cntM cc) rfl rfl rfl hcc ?_
 rw [cntM_get]
 have hb1:=hB w x
 rw [← hcv x] at hb1
 refine hsub (r:=(cc x).getD 0 + (-1)) rfl rfl (i64w (by omega)) (hmu (id:=j.c w) (m:=cntM cc) rfl rfl rfl rfl hcc ?_)
 have hS1:=hS.add (w:=w) hcv x (-1)
 refine qk (kq9 J) (kq3 J) (bqn (sqn (ereg (hadd J J (i64w (by omega)) (qp J (qk (kq9 J) (kq3 J) ?_))))))
 refine gat_l4 j b hco hv u83 u84 u85 O (i + 1) (by omega) _ hS1 ((hB.add (by omega)).le (by omega)) fun k S' h c=>hX k S' ?_ ((Ch.set (Ch.refl _) (fun _=>j.Xc w) _).trans c)
 rw [hd,addsM_cons,coAt_drop,hw,List.tail_drop]
 exact h
termination_by b.vars.length - i
decreasing_by all_goals omega
theorem frB_fun (b:Br):(frB b)=fun w v=>frN b.body w v && !bnd w b.vars b.co v:=by
 funext w v
 rw [frB_eq]
theorem nBds_mem {l:List Node} {b:Node} (h:b ∈ l):nBd b ≤ nBds l:=by
 induction l with
 | nil=>cases h
 | cons a l ih =>
   rw [nBds]
   rcases List.mem_cons.1 h with rfl | h
   ·omega
   have:=ih h;omega
theorem bBds_mem {l:List Br} {b:Br} (h:b ∈ l):bBd b ≤ bBds l:=by
 induction l with
 | nil=>cases h
 | cons a l ih =>
   rw [bBds]
   rcases List.mem_cons.1 h with rfl | h
   ·omega
   have:=ih h;omega
theorem gat_l1 (j:GJ) (a:Node) (C:CN) (c:Nat) (hC:∀ w,Bn (C w) c) (xs:List Node) (hx:xs.length ≤ 2 ^ 40) (H:∀ b ∈ xs,GaC j b) (hc:c + nBds xs ≤ 2 ^ 40) (u7 u9 u10:AV) (i:Nat) (hi:i ≤ xs.length) (O:Bool → Int → Bool) {n:Nat} {v:Nat → Bool} {D:List (Nat × List AV)} {S:Sg} {Q:Ex → Fr → Prop} (hS:GS j C O S)
 (hX:∀ k S',GS j C (addF O C (frNs (xs.drop i))) S' → Ch j.X S S' → Q (.exit 1) ⟨upd (upd (upd (uv (uv (uv (uv (uv (uv (uv e0 67 (B false)) 66 (I k)) 65 (I (xs.map Node.enc).length)) 64 (SL 5 (xs.map Node.enc))) 10 (u10)) 9 (u9)) 7 (u7)) 5 (some (.loc 5 0))) 4 (some (.loc 4 0))) 3 (some (.loc 3 0)),upd (upd (upd ((fun _=>none)) 5 (some ([.map j.o0,.map j.o1]))) 4 (some ([.map j.c0,.map j.c1]))) 3 (some (a.cs)),n,v,D,S'⟩):EX (callL p) (.loop F59_l1) ⟨upd (upd (upd (uv (uv (uv (uv (uv (uv e0 66 (I i)) 65 (I (xs.map Node.enc).length)) 64 (SL 5 (xs.map Node.enc))) 10 (u10)) 9 (u9)) 7 (u7)) 5 (some (.loc 5 0))) 4 (some (.loc 4 0))) 3 (some (.loc 3 0)),upd (upd (upd ((fun _=>none)) 5 (some ([.map j.o0,.map j.o1]))) 4 (some ([.map j.c0,.map j.c1]))) 3 (some (a.cs)),n,v,D,S⟩ Q:=by
 refine eloop (er (qp J (qb ?_)))
 rintro (_ | _) h1
 ·refine qn (kq10 J) (kq3 J) (eseq (ecF J (eexit (sqx ?_))))
  refine hX _ _ ?_ (Ch.refl _)
  rw [List.drop_eq_nil_of_le (by simp at h1 ⊢;omega),show frNs []=fun _ _=>false from rfl,addF_no]
  exact hS
 refine qn (kq10 J) (kq3 J) (eseq (ecT J (eskip (sqn (eseq (eblock (er ?_)))))))
 have hlt:i < xs.length:=by simpa using h1
 obtain ⟨b,hb⟩:=get_of_lt hlt
 have hd:=drop_cons hb
 refine hia (y:=.agg b.cs) rfl rfl (by omega) (by simp [hb,Node.enc_eq]) rfl (hlda rfl rfl (lc rfl (lc rfl (lc rfl (lc rfl (lc rfl (ln rfl)))))) (hal (dc (dc (dc (dc (dc (dc (dc (dc (dc (dc (dc (dc dn rfl) rfl) rfl) rfl) rfl) rfl) rfl) rfl) rfl) rfl) rfl) rfl) (hstl rfl rfl rfl rfl (Nlb rfl) (lc rfl (lc rfl (lc rfl (lc rfl (lc rfl (ln rfl)))))) (qk (kc rfl (kc rfl (kc rfl (kc rfl (kc rfl (kc rfl (kc rfl (kc rfl (kc rfl (kc rfl kn)))))))))) (kc rfl (kc rfl (kc rfl (kc rfl kn)))) (sqn (ereg (hlda rfl rfl (lc rfl (lc rfl (lc rfl (lc rfl (lc rfl (ln rfl)))))) (hlda rfl rfl (lc rfl (lc rfl (ln rfl))) (hlda rfl rfl (lc rfl (lc rfl (ln rfl))) (hcall rfl rfl rfl (H b (Lmg hb) _ C O c hS hC (by have:=nBds_mem (Lmg hb);omega)) ?_))))))))))
 rintro _ S1 ⟨rfl,hS1,k1⟩
 refine qk (kq9 J) (kq3 J) (bqn (sqn (ereg (hadd J J (i64w (by omega)) (qp J (qk (kq9 J) (kq3 J) ?_))))))
 refine gat_l1 j a C c hC xs hx H hc u7 u9 u10 (i + 1) (by omega) _ hS1 fun k S' h k2=>hX k S' ?_ (k1.trans k2)
 rw [addF_or] at h
 rw [hd]
 exact h
termination_by xs.length - i
decreasing_by all_goals omega
theorem gat_l2 (j:GJ) (C:CN) (c:Nat) (hC:∀ w,Bn (C w) c) (xs:List Br) (hx:xs.length ≤ 2 ^ 40) (hz:∀ b ∈ xs,b.sz ≤ 2 ^ 40) (H:∀ b ∈ xs,GaC j b.body) (hc:c + bBds xs ≤ 2 ^ 40) (i:Nat) (hi:i ≤ xs.length) (O:Bool → Int → Bool) {n:Nat} {v:Nat → Bool} {D:List (Nat × List AV)} {S:Sg} {Q:Ex → Fr → Prop} (hS:GS j C O S)
 (hX:∀ k S',GS j C (addF O C (frBs (xs.drop i))) S' → Ch j.X S S' → Q (.exit 3) ⟨upd (upd (uv (uv (uv (uv e0 86 (B false)) 85 (I k)) 84 (I (xs.map Br.enc).length)) 83 (SL 7 (xs.map Br.enc))) 5 (some (.loc 5 0))) 4 (some (.loc 4 0)),upd (upd ((fun _=>none)) 5 (some ([.map j.o0,.map j.o1]))) 4 (some ([.map j.c0,.map j.c1])),n,v,D,S'⟩):EX (callL p) (.loop F59_l2) ⟨upd (upd (uv (uv (uv e0 85 (I i)) 84 (I (xs.map Br.enc).length)) 83 (SL 7 (xs.map Br.enc))) 5 (some (.loc 5 0))) 4 (some (.loc 4 0)),upd (upd ((fun _=>none)) 5 (some ([.map j.o0,.map j.o1]))) 4 (some ([.map j.c0,.map j.c1])),n,v,D,S⟩ Q:=by
 refine eloop (er (qp J (qb ?_)))
 rintro (_ | _) h1
 ·refine qn (kq6 J) (kq2 J) (eseq (ecF J (eexit (sqx ?_))))
  refine hX _ _ ?_ (Ch.refl _)
  rw [List.drop_eq_nil_of_le (by simp at h1 ⊢;omega),show frBs []=fun _ _=>false from rfl,addF_no]
  exact hS
 refine qn (kq6 J) (kq2 J) (eseq (ecT J (eskip (sqn (eseq (eblock (er ?_)))))))
 have hlt:i < xs.length:=by simpa using h1
 obtain ⟨b,hb⟩:=get_of_lt hlt
 have hd:=drop_cons hb
 have hm:=Lmg hb
 have hbz:=hz b hm
 have hb1:=b.sz_co
 have hb2:=b.sz_vars
 have hb3:=bBds_mem hm
 have hb4:=bBd_eq b
 have hBB:Bd2 C (2 ^ 50 + (0:Nat)):=fun w n=>by have:=hC w n;omega
 refine hia (y:=.agg (ints b.vars :: bools b.co :: b.body.cs)) rfl rfl (by omega) (by simp [hb,Br.enc_eq]) rfl (hlda rfl rfl (lc rfl (lc rfl (lc rfl (lc rfl (lc rfl (lc rfl (lc rfl (ln rfl)))))))) (hal (dc (dc (dc (dc (dc (dc (dc (dc dn rfl) rfl) rfl) rfl) rfl) rfl) rfl) rfl) (hstl rfl rfl rfl rfl (Nlb rfl) (lc rfl (lc rfl (lc rfl (lc rfl (lc rfl (lc rfl (lc rfl (ln rfl)))))))) (qk (kc rfl (kc rfl (kc rfl (kc rfl (kc rfl (kc rfl kn)))))) (kc rfl (kc rfl (kc rfl kn))) (sqn (eseq (eseq (ereg (qp rfl (qp rfl (qp rfl (qp rfl (qk (kc rfl (kc rfl (kc rfl (kc rfl (kc rfl (kc rfl (kc rfl (kc rfl (kc rfl kn))))))))) (kc rfl (kc rfl (kc rfl kn))) (sqn (eblock (gat_l3 j b (by omega) (by omega) _ _ _ O 0 (Nat.zero_le _) C hS hBB ?_))))))))))))))))
 intro z1 S1 hS1 k1
 rw [List.drop_zero,List.drop_zero] at hS1
 refine bqx (sqn (eseq (ereg (qp rfl (hlda (cs:=b.body.cs) rfl rfl (lc rfl (lc rfl (lc rfl (lc rfl (lc rfl (ln rfl)))))) (hlda rfl rfl (lc rfl (lc rfl (ln rfl))) (hlda rfl rfl (lc rfl (lc rfl (ln rfl))) (hcall rfl rfl rfl (H b hm _ (addsM C b.vars b.co 1) O (c + b.vars.length) hS1 (fun w=>((hC w).adds (w:=w) (vars:=b.vars) (cos:=b.co)).1.le (by omega)) (by omega)) ?_))))))))
 rintro _ S2 ⟨rfl,hS2,k2⟩
 rw [addF_bound (C1:=addsM C b.vars b.co 1) (C:=C) (B':=fun w v=>bnd w b.vars b.co v) fun w v=>((hC w).adds (w:=w) (vars:=b.vars) (cos:=b.co)).2 v] at hS2
 have hBC:Bd2 (addsM C b.vars b.co 1) (2 ^ 50 + (0:Nat)):=fun w n=>by have:=((hC w).adds (w:=w) (vars:=b.vars) (cos:=b.co)).1 n;show _ ≤ addsK w (C w) b.vars b.co 1 n ∧ addsK w (C w) b.vars b.co 1 n ≤ _;omega
 refine qn (kq6 J) (kq3 J) (er (pq4 J (qn (kq9 J) (kq3 J) (eblock (gat_l4 j b (by omega) (by omega) _ _ _ _ 0 (Nat.zero_le _) _ hS2 hBC ?_)))))
 intro z2 S3 hS3 k3
 rw [List.drop_zero,List.drop_zero,addsM_back] at hS3
 refine bqx (bqn (sqn (ereg (hadd J J (i64w (by omega)) (qp J (qk (kq5 J) (kq2 J) ?_))))))
 refine gat_l2 j C c hC xs hx hz H hc (i + 1) (by omega) _ hS3 fun k S' h k4=>hX k S' ?_ (((k1.trans k2).trans k3).trans k4)
 rw [← frB_fun b,addF_or] at h
 rw [hd]
 exact h
termination_by xs.length - i
decreasing_by all_goals omega
theorem muB_bound {op n:Int} {C:CN} {c:Nat} (h:op=3 ∨ op=7) (hC:∀ w,Bn (C w) c) (w:Bool) (v:Int):addM C (decide (op=3)) n 1 w v=0 ↔ C w v=0 ∧ muB op n w v=false:=by
 have h1:=hC w v
 unfold addM addK muB
 by_cases hv:v=n
 ·subst hv
  rcases h with h | h <;> subst h <;> cases w <;> simp <;> omega
 rcases h with h | h <;> subst h <;> cases w <;> simp [hv]
theorem Bn_mu {C:CN} {c:Nat} (hC:∀ w,Bn (C w) c) (w':Bool) (n:Int):∀ w,Bn (addM C w' n 1 w) (c + 1:Nat):=fun w=>by
 unfold addM
 split
 ·exact (hC w).add.le (by omega)
 exact (hC w).le (by omega)
theorem fr_leaf {a:Node} {O:Bool → Int → Bool} {C:CN} (h:a.op=0 ∨ a.op=5):addF O C (frN a)=if C (decide (a.op=5)) a.n=0 then putO O (decide (a.op=5)) a.n else O:=by
 funext w v
 simp only [addF,frN_eq,if_pos h]
 by_cases e:w=decide (a.op=5) ∧ v=a.n
 ·obtain ⟨rfl,rfl⟩:=e
  by_cases hc:C (decide (a.op=5)) a.n=0
  ·rw [if_pos hc];simp [putO,addV,hc]
  rw [if_neg hc];simp [hc]
 rw [decide_eq_false e,Bool.and_false,Bool.or_false]
 split
 ·unfold putO
  split
  ·rename_i h1
   have h2:¬ v=a.n:=fun h2=>e ⟨h1,h2⟩
   simp [addV,h2]
  rfl
 rfl
theorem fr_one {a:Node} {O:Bool → Int → Bool} {C:CN} (h:a.op=1):addF O C (frN a)=O:=by
 have:frN a=fun _ _=>false:=by
  funext w v
  rw [frN_eq,if_neg (by omega),if_pos h]
 rw [this,addF_no]
theorem fr_bnd {a:Node} {O:Bool → Int → Bool} {C:CN} {c:Nat} (h:a.op=3 ∨ a.op=7) (hC:∀ w,Bn (C w) c):addF (addF O (addM C (decide (a.op=3)) a.n 1) (frNs a.args)) C (frBs a.brs)=addF O C (frN a):=by
 rw [addF_bound (muB_bound h hC),addF_or]
 congr 1
 funext w v
 rw [frN_eq,if_neg (by omega),if_neg (by omega)]
theorem fr_gen {a:Node} {O:Bool → Int → Bool} {C:CN} (h:leafOp a.op=false) (h3:a.op ≠ 3) (h7:a.op ≠ 7):addF (addF O C (frNs a.args)) C (frBs a.brs)=addF O C (frN a):=by
 rw [addF_or]
 congr 1
 funext w v
 rw [frN_eq,if_neg (fun e=>by rcases e with e | e <;> rw [e] at h <;> cases h),if_neg (fun e=>by rw [e] at h;cases h)]
 simp [muB,h3,h7]
theorem kids_leaf {a:Node} (h:leafOp a.op=true):kidsA a=[] ∧ kidsB a=[]:=by unfold kidsA kidsB;rw [if_pos h,if_pos h];exact ⟨rfl,rfl⟩
theorem kids_not {a:Node} (h:leafOp a.op=false):kidsA a=a.args ∧ kidsB a=a.brs:=by unfold kidsA kidsB;rw [if_neg (by simp [h]),if_neg (by simp [h])];exact ⟨rfl,rfl⟩
theorem fr_kids {a:Node} {O:Bool → Int → Bool} {C:CN} (h:leafOp a.op=true):addF (addF O C (frNs (kidsA a))) C (frBs (kidsB a))=O:=by
 rw [(kids_leaf h).1,(kids_leaf h).2,show frNs []=fun _ _=>false from rfl,show frBs []=fun _ _=>false from rfl,addF_no,addF_no]
theorem gat_hit {j:GJ} {a:Node} {O:Bool → Int → Bool} {C:CN} {S:Sg} {w:Bool} {cc:Int → Option Int} (h:a.op=0 ∨ a.op=5) (hw:w=decide (a.op=5)) (hv:∀ n,(cc n).getD 0=C w n) (h0:decide ((cc a.n).getD 0=0)=true)
 (k:GS j C (addF (addF (putO O w a.n) C (frNs (kidsA a))) C (frBs (kidsB a))) S):GS j C (addF O C (frN a)) S:=by
 rw [fr_kids (by rcases h with h | h <;> rw [h] <;> rfl)] at k
 rw [fr_leaf h,← hw,if_pos (by rw [← hv];exact Odt h0)]
 exact k
theorem gat_miss {j:GJ} {a:Node} {O:Bool → Int → Bool} {C:CN} {S:Sg} {w:Bool} {cc:Int → Option Int} (h:a.op=0 ∨ a.op=5) (hw:w=decide (a.op=5)) (hv:∀ n,(cc n).getD 0=C w n) (h0:decide ((cc a.n).getD 0=0)=false)
 (k:GS j C (addF (addF O C (frNs (kidsA a))) C (frBs (kidsB a))) S):GS j C (addF O C (frN a)) S:=by
 rw [fr_kids (by rcases h with h | h <;> rw [h] <;> rfl)] at k
 rw [fr_leaf h,← hw,if_neg (by rw [← hv];exact of_decide_eq_false h0)]
 exact k
theorem gat_bnd {j:GJ} {a:Node} {O:Bool → Int → Bool} {C:CN} {c:Nat} {S:Sg} {w:Bool} (h:a.op=3 ∨ a.op=7) (hw:decide (a.op=3)=w) (hC:∀ w,Bn (C w) c)
 (k:GS j C (addF (addF O (addM C w a.n 1) (frNs (kidsA a))) C (frBs (kidsB a))) S):GS j C (addF O C (frN a)) S:=by
 obtain ⟨e1,e2⟩:=kids_not (a:=a) (by rcases h with h | h <;> rw [h] <;> rfl)
 rw [e1,e2,← hw,fr_bnd h hC] at k
 exact k
theorem gat_gen {j:GJ} {a:Node} {O:Bool → Int → Bool} {C:CN} {S:Sg} (h0:a.op ≠ 0) (h5:a.op ≠ 5) (h3:a.op ≠ 3) (h7:a.op ≠ 7)
 (k:GS j C (addF (addF O C (frNs (kidsA a))) C (frBs (kidsB a))) S):GS j C (addF O C (frN a)) S:=by
 by_cases h1:a.op=1
 ·rw [fr_kids (by rw [h1];rfl)] at k
  rw [fr_one h1]
  exact k
 have hl:leafOp a.op=false:=by simp [leafOp,h0,h1,h5]
 obtain ⟨e1,e2⟩:=kids_not hl
 rw [e1,e2,fr_gen hl h3 h7] at k
 exact k
theorem gather_c0 (j:GJ) (a:Node) (hz:a.sz ≤ 2 ^ 40) (H1:∀ b ∈ a.args,GaC j b) (H2:∀ b ∈ a.brs,GaC j b.body) (s:Sg) (C:CN) (O:Bool → Int → Bool) (c:Nat) (hS:GS j C O s) (hC:∀ w,Bn (C w) c) (hc:c + nBd a ≤ 2 ^ 40):HC p N59_ [.agg a.cs,.agg [.map j.c0,.map j.c1],.agg [.map j.o0,.map j.o1]] s (fun r s'=>r=[] ∧ GS j C (addF O C (frN a)) s' ∧ Ch j.X s s'):=by
 have hbd:=nBd_eq a
 have hAl:=kidsA_len a
 have hBl:=kidsB_len a
 obtain ⟨kA1,kA2⟩:=kidsA_le 0 a
 obtain ⟨kB1,kB2⟩:=kidsB_le 0 a
 have hzB:∀ b ∈ kidsB a,b.sz ≤ 2 ^ 40:=fun b hb=>by have:=Node.sz_br (kidsB_sub a b hb);omega
 refine hcf J f59_ J ?_
 simp only [chainOf]
 refine er (hbox (dq3 J) J (lq5 J) (hbox (dq4 J) J (lq2 J) (hbox (dq5 J) J (lq2 J) (qn (kq3 J) (kq3 J) (er (hlda J J (lq5 J) (hcall J J J (children_c _ _) ?_)))))))
 rintro _ _ ⟨rfl,hq⟩
 obtain rfl:=hq.symm
 refine pq5 J (qn (kq5 J) (kq3 J) (eseq (er (pq2 J (qn (kq6 J) (kq3 J) (eblock (eseq (er (qp J (qb ?_))))))))))
 rintro (_ | _) h1
 refine qp J (qn (kq7 J) (kq3 J) (ecF J (ereg (qp J (qb ?_)))))
 rintro (_ | _) h2
 refine qp J (qn (kq6 J) (kq3 J) (ecF J (eskip (bqn (sqn (er (pq3 J (qb ?_))))))))
 rintro (_ | _) h3
 refine qp J (qg J (qp J (qg J (qp J (qg J (qp J (qb ?_)))))))
 rintro (_ | _) h4
 refine pq2 J (qn (kq6 J) (kq3 J) (er (pq3 J (hcall J J J (cside_c _ _) ?_))))
 rintro _ _ ⟨rfl,hq⟩
 obtain rfl:=hq.symm
 refine qp J (qn (kq7 J) (kq3 J) (eseq (er (qp J (qn (kq8 J) (kq3 J) (ecF J (eskip (sqn (eseq (er (pq3 J (qn (kq9 J) (kq3 J) (eblock ?_)))))))))))))
 first
 | refine gat_l1 j a _ (c + 1) (Bn_mu hC w a.n) (kidsA a) (by omega) (fun d hd=>H1 d (kidsA_sub a d hd)) (by rw [hbd,if_pos hob] at hc;omega) _ _ _ 0 (Nat.zero_le _) _ hS1 ?_
 | refine gat_l1 j a C c hC (kidsA a) (by omega) (fun d hd=>H1 d (kidsA_sub a d hd)) (by omega) _ _ _ 0 (Nat.zero_le _) _ hS ?_
 intro z1 S2 hS2 k2
 rw [List.drop_zero] at hS2
 refine bqx (sqn (eseq (er (qp J (qb ?_)))))
 rintro (_ | _) h5
 refine qn (kq6 J) (kq3 J) (ecF J (eskip (sqn (er (pq3 J (qn (kq5 J) (kq2 J) (eblock ?_)))))))
 first
 | refine gat_l2 j C c hC (kidsB a) (by omega) hzB (fun d hd=>H2 d (kidsB_sub a d hd)) (by omega) 0 (Nat.zero_le _) _ hS3 ?_
 | refine gat_l2 j C c hC (kidsB a) (by omega) hzB (fun d hd=>H2 d (kidsB_sub a d hd)) (by omega) 0 (Nat.zero_le _) _ hS2 ?_
 rotate_left
 cases h5
 refine pq2 J (qn (kq6 J) (kq3 J) (er (pq3 J (hcall J J J (cside_c _ _) ?_))))
 rintro _ _ ⟨rfl,hq⟩
 obtain rfl:=hq.symm
 refine qp J (qn (kq7 J) (kq3 J) (eseq (er (qp J (qn (kq8 J) (kq3 J) (ecT J (ereg (qp J ?_))))))))
 have hob:a.op=3 ∨ a.op=7:=by
  first
  | (refine .inl (Odt ?_);assumption)
  | (refine .inr (Odt ?_);assumption)
 generalize hw:decide (a.op=3)=w
 refine qp (t:=.loc 4 (0 + (sideOf w).toNat * 1)) (by cases w <;> rfl) ?_
 obtain ⟨cc,hcc,hcv⟩:=hS.hc w
 refine qp (t:=.val (.map (j.c w))) (by cases w <;> rfl) ?_
 refine qp rfl (qp rfl (hlk (id:=j.c w) (m:=cntM cc) rfl rfl rfl hcc ?_))
 rw [cntM_get]
 have hb1:=hC w a.n
 rw [← hcv a.n] at hb1
 refine hadd (r:=(cc a.n).getD 0 + 1) rfl rfl (i64w (by omega)) (hmu (id:=j.c w) (m:=cntM cc) rfl rfl rfl rfl hcc ?_)
 have hS1:=hS.add (w:=w) hcv a.n 1
 have k1:Ch j.X s _:=Ch.set (Ch.refl s) (fun _=>j.Xc w) (.map (.int .i64) (mset (cntM cc) (.int .i64 a.n) (some (I ((cc a.n).getD 0 + 1)))))
 refine qn (kq7 J) (kq3 J) (eseq (er (pq3 J (qn (kq9 J) (kq3 J) (eblock ?_)))))
 first
 | refine gat_l1 j a _ (c + 1) (Bn_mu hC w a.n) (kidsA a) (by omega) (fun d hd=>H1 d (kidsA_sub a d hd)) (by rw [hbd,if_pos hob] at hc;omega) _ _ _ 0 (Nat.zero_le _) _ hS1 ?_
 | refine gat_l1 j a C c hC (kidsA a) (by omega) (fun d hd=>H1 d (kidsA_sub a d hd)) (by omega) _ _ _ 0 (Nat.zero_le _) _ hS ?_
 intro z1 S2 hS2 k2
 rw [List.drop_zero] at hS2
 refine bqx (sqn (eseq (er (qp J (qb ?_)))))
 rintro (_ | _) h6
 cases h6
 refine qn (kq6 J) (kq3 J) (ecT J (ereg (qp J ?_)))
 refine qp (t:=.loc 4 (0 + (sideOf w).toNat * 1)) (by cases w <;> rfl) ?_
 obtain ⟨cc,hcc,hcv⟩:=hS2.hc w
 refine qp (t:=.val (.map (j.c w))) (by cases w <;> rfl) ?_
 refine qp rfl (qp rfl (hlk (id:=j.c w) (m:=cntM cc) rfl rfl rfl hcc ?_))
 rw [cntM_get]
 have hb2:=Bn_mu hC w a.n w a.n
 rw [← hcv a.n] at hb2
 refine hsub (r:=(cc a.n).getD 0 + (-1)) rfl rfl ((i64w (by omega)).trans (by rfl)) (hmu (id:=j.c w) (m:=cntM cc) rfl rfl rfl rfl hcc ?_)
 have hS3:=hS2.add (w:=w) hcv a.n (-1)
 have k3:Ch j.X S2 _:=Ch.set (Ch.refl S2) (fun _=>j.Xc w) (.map (.int .i64) (mset (cntM cc) (.int .i64 a.n) (some (I ((cc a.n).getD 0 + (-1))))))
 rw [addM_back] at hS3
 refine qn (kq3 J) (kq2 J) (er (pq3 J (qn (kq5 J) (kq2 J) (eblock ?_))))
 first
 | refine gat_l2 j C c hC (kidsB a) (by omega) hzB (fun d hd=>H2 d (kidsB_sub a d hd)) (by omega) 0 (Nat.zero_le _) _ hS3 ?_
 | refine gat_l2 j C c hC (kidsB a) (by omega) hzB (fun d hd=>H2 d (kidsB_sub a d hd)) (by omega) 0 (Nat.zero_le _) _ hS2 ?_
 rotate_left
 refine qp J (zq3 J (pq2 J (qn (kq6 J) (kq3 J) (er (pq3 J (hcall J J J (cside_c _ _) ?_))))))
 rintro _ _ ⟨rfl,hq⟩
 obtain rfl:=hq.symm
 refine qp J (qn (kq7 J) (kq3 J) (eseq (er (qp J (qn (kq8 J) (kq3 J) (ecT J (ereg (qp J ?_))))))))
 have hob:a.op=3 ∨ a.op=7:=by
  first
  | (refine .inl (Odt ?_);assumption)
  | (refine .inr (Odt ?_);assumption)
 generalize hw:decide (a.op=3)=w
 refine qp (t:=.loc 4 (0 + (sideOf w).toNat * 1)) (by cases w <;> rfl) ?_
 obtain ⟨cc,hcc,hcv⟩:=hS.hc w
 refine qp (t:=.val (.map (j.c w))) (by cases w <;> rfl) ?_
 refine qp rfl (qp rfl (hlk (id:=j.c w) (m:=cntM cc) rfl rfl rfl hcc ?_))
 rw [cntM_get]
 have hb1:=hC w a.n
 rw [← hcv a.n] at hb1
 refine hadd (r:=(cc a.n).getD 0 + 1) rfl rfl (i64w (by omega)) (hmu (id:=j.c w) (m:=cntM cc) rfl rfl rfl rfl hcc ?_)
 have hS1:=hS.add (w:=w) hcv a.n 1
 have k1:Ch j.X s _:=Ch.set (Ch.refl s) (fun _=>j.Xc w) (.map (.int .i64) (mset (cntM cc) (.int .i64 a.n) (some (I ((cc a.n).getD 0 + 1)))))
 refine qn (kq7 J) (kq3 J) (eseq (er (pq3 J (qn (kq9 J) (kq3 J) (eblock ?_)))))
 first
 | refine gat_l1 j a _ (c + 1) (Bn_mu hC w a.n) (kidsA a) (by omega) (fun d hd=>H1 d (kidsA_sub a d hd)) (by rw [hbd,if_pos hob] at hc;omega) _ _ _ 0 (Nat.zero_le _) _ hS1 ?_
 | refine gat_l1 j a C c hC (kidsA a) (by omega) (fun d hd=>H1 d (kidsA_sub a d hd)) (by omega) _ _ _ 0 (Nat.zero_le _) _ hS ?_
 intro z1 S2 hS2 k2
 rw [List.drop_zero] at hS2
 refine bqx (sqn (eseq (er (qp J (qb ?_)))))
 rintro (_ | _) h7
 cases h7
 refine qn (kq6 J) (kq3 J) (ecT J (ereg (qp J ?_)))
 refine qp (t:=.loc 4 (0 + (sideOf w).toNat * 1)) (by cases w <;> rfl) ?_
 obtain ⟨cc,hcc,hcv⟩:=hS2.hc w
 refine qp (t:=.val (.map (j.c w))) (by cases w <;> rfl) ?_
 refine qp rfl (qp rfl (hlk (id:=j.c w) (m:=cntM cc) rfl rfl rfl hcc ?_))
 rw [cntM_get]
 have hb2:=Bn_mu hC w a.n w a.n
 rw [← hcv a.n] at hb2
 refine hsub (r:=(cc a.n).getD 0 + (-1)) rfl rfl ((i64w (by omega)).trans (by rfl)) (hmu (id:=j.c w) (m:=cntM cc) rfl rfl rfl rfl hcc ?_)
 have hS3:=hS2.add (w:=w) hcv a.n (-1)
 have k3:Ch j.X S2 _:=Ch.set (Ch.refl S2) (fun _=>j.Xc w) (.map (.int .i64) (mset (cntM cc) (.int .i64 a.n) (some (I ((cc a.n).getD 0 + (-1))))))
 rw [addM_back] at hS3
 refine qn (kq3 J) (kq2 J) (er (pq3 J (qn (kq5 J) (kq2 J) (eblock ?_))))
 first
 | refine gat_l2 j C c hC (kidsB a) (by omega) hzB (fun d hd=>H2 d (kidsB_sub a d hd)) (by omega) 0 (Nat.zero_le _) _ hS3 ?_
 | refine gat_l2 j C c hC (kidsB a) (by omega) hzB (fun d hd=>H2 d (kidsB_sub a d hd)) (by omega) 0 (Nat.zero_le _) _ hS2 ?_
 rotate_left
 refine qp J (qn (kq6 J) (kq3 J) (ecT J (er (pq2 J (hcall J J J (Sort_c _ a.op) ?_)))))
 rintro _ _ ⟨rfl,hq⟩
 obtain rfl:=hq.symm
 have hop:a.op=0 ∨ a.op=5:=by
  first
  | (refine .inl (Odt ?_);assumption)
  | (refine .inr (Odt ?_);assumption)
 obtain ⟨w,hw1,hw2⟩:∃ w:Bool,sortOf a.op=sideOf w ∧ w=decide (a.op=5):=by
  rcases hop with e | e
  ·exact ⟨false,by rw [e];rfl,by simp [e]⟩
  exact ⟨true,by rw [e];rfl,by simp [e]⟩
 rw [hw1]
 refine qp J (qn (kq6 J) (kq3 J) (er (qp J ?_)))
 refine qp (t:=.loc 4 (0 + (sideOf w).toNat * 1)) (by cases w <;> rfl) ?_
 obtain ⟨cc,hcc,hcv⟩:=hS.hc w
 refine qp (t:=.val (.map (j.c w))) (by cases w <;> rfl) ?_
 refine qp rfl (qp rfl (hlk (id:=j.c w) (m:=cntM cc) rfl rfl rfl hcc ?_))
 rw [cntM_get]
 refine qp J (qb ?_)
 rintro (_ | _) h8
 refine qn (kq7 J) (kq3 J) (ecF J (eskip (bqn (sqn (er (pq3 J (qb ?_)))))))
 rintro (_ | _) h9
 refine qp J (qg J (qp J (qg J (qp J (qg J (qp J (qb ?_)))))))
 rintro (_ | _) h10
 refine pq2 J (qn (kq6 J) (kq3 J) (er (pq3 J (hcall J J J (cside_c _ _) ?_))))
 rintro _ _ ⟨rfl,hq⟩
 obtain rfl:=hq.symm
 refine qp J (qn (kq7 J) (kq3 J) (eseq (er (qp J (qn (kq8 J) (kq3 J) (ecF J (eskip (sqn (eseq (er (pq3 J (qn (kq9 J) (kq3 J) (eblock ?_)))))))))))))
 first
 | refine gat_l1 j a _ (c + 1) (Bn_mu hC w a.n) (kidsA a) (by omega) (fun d hd=>H1 d (kidsA_sub a d hd)) (by rw [hbd,if_pos hob] at hc;omega) _ _ _ 0 (Nat.zero_le _) _ hS1 ?_
 | refine gat_l1 j a C c hC (kidsA a) (by omega) (fun d hd=>H1 d (kidsA_sub a d hd)) (by omega) _ _ _ 0 (Nat.zero_le _) _ hS ?_
 intro z1 S2 hS2 k2
 rw [List.drop_zero] at hS2
 refine bqx (sqn (eseq (er (qp J (qb ?_)))))
 rintro (_ | _) h11
 refine qn (kq6 J) (kq3 J) (ecF J (eskip (sqn (er (pq3 J (qn (kq5 J) (kq2 J) (eblock ?_)))))))
 first
 | refine gat_l2 j C c hC (kidsB a) (by omega) hzB (fun d hd=>H2 d (kidsB_sub a d hd)) (by omega) 0 (Nat.zero_le _) _ hS3 ?_
 | refine gat_l2 j C c hC (kidsB a) (by omega) hzB (fun d hd=>H2 d (kidsB_sub a d hd)) (by omega) 0 (Nat.zero_le _) _ hS2 ?_
 rotate_left
 cases h11
 exact absurd (Odt h10) (by omega)
 exact absurd (Odt h9) (by omega)
 refine qn (kq7 J) (kq3 J) (ecT J (ereg (qp J ?_)))
 refine qp (t:=.loc 5 (0 + (sideOf w).toNat * 1)) (by cases w <;> rfl) ?_
 refine qp (t:=.val (.map (j.o w))) (by cases w <;> rfl) ?_
 refine qp rfl (qp rfl (hmu (id:=j.o w) (m:=setM (O w)) rfl rfl rfl rfl (hS.ho w) ?_))
 rw [show (AV.lit (.bool true)).er=B true from rfl,setM_add]
 have hS:=hS.put w a.n
 have k1:Ch j.X s _:=Ch.set (Ch.refl s) (fun _=>j.Xo w) (.map (.int .i64) (setM (addV (O w) a.n)))
 refine qk (kq5 J) (kq3 J) (bqn (sqn (er (pq3 J (qb ?_)))))
 rintro (_ | _) h12
 refine qp J (qg J (qp J (qg J (qp J (qg J (qp J (qb ?_)))))))
 rintro (_ | _) h13
 refine pq2 J (qn (kq6 J) (kq3 J) (er (pq3 J (hcall J J J (cside_c _ _) ?_))))
 rintro _ _ ⟨rfl,hq⟩
 obtain rfl:=hq.symm
 refine qp J (qn (kq7 J) (kq3 J) (eseq (er (qp J (qn (kq8 J) (kq3 J) (ecF J (eskip (sqn (eseq (er (pq3 J (qn (kq9 J) (kq3 J) (eblock ?_)))))))))))))
 first
 | refine gat_l1 j a _ (c + 1) (Bn_mu hC w a.n) (kidsA a) (by omega) (fun d hd=>H1 d (kidsA_sub a d hd)) (by rw [hbd,if_pos hob] at hc;omega) _ _ _ 0 (Nat.zero_le _) _ hS1 ?_
 | refine gat_l1 j a C c hC (kidsA a) (by omega) (fun d hd=>H1 d (kidsA_sub a d hd)) (by omega) _ _ _ 0 (Nat.zero_le _) _ hS ?_
 intro z1 S2 hS2 k2
 rw [List.drop_zero] at hS2
 refine bqx (sqn (eseq (er (qp J (qb ?_)))))
 rintro (_ | _) h14
 refine qn (kq6 J) (kq3 J) (ecF J (eskip (sqn (er (pq3 J (qn (kq5 J) (kq2 J) (eblock ?_)))))))
 first
 | refine gat_l2 j C c hC (kidsB a) (by omega) hzB (fun d hd=>H2 d (kidsB_sub a d hd)) (by omega) 0 (Nat.zero_le _) _ hS3 ?_
 | refine gat_l2 j C c hC (kidsB a) (by omega) hzB (fun d hd=>H2 d (kidsB_sub a d hd)) (by omega) 0 (Nat.zero_le _) _ hS2 ?_
 rotate_left
 cases h14
 exact absurd (Odt h13) (by omega)
 exact absurd (Odt h12) (by omega)
 refine qp J (qn (kq7 J) (kq3 J) (ecT J (eskip (sqn (ecT J (er (pq2 J (hcall J J J (Sort_c _ a.op) ?_))))))))
 rintro _ _ ⟨rfl,hq⟩
 obtain rfl:=hq.symm
 have hop:a.op=0 ∨ a.op=5:=by
  first
  | (refine .inl (Odt ?_);assumption)
  | (refine .inr (Odt ?_);assumption)
 obtain ⟨w,hw1,hw2⟩:∃ w:Bool,sortOf a.op=sideOf w ∧ w=decide (a.op=5):=by
  rcases hop with e | e
  ·exact ⟨false,by rw [e];rfl,by simp [e]⟩
  exact ⟨true,by rw [e];rfl,by simp [e]⟩
 rw [hw1]
 refine qp J (qn (kq6 J) (kq3 J) (er (qp J ?_)))
 refine qp (t:=.loc 4 (0 + (sideOf w).toNat * 1)) (by cases w <;> rfl) ?_
 obtain ⟨cc,hcc,hcv⟩:=hS.hc w
 refine qp (t:=.val (.map (j.c w))) (by cases w <;> rfl) ?_
 refine qp rfl (qp rfl (hlk (id:=j.c w) (m:=cntM cc) rfl rfl rfl hcc ?_))
 rw [cntM_get]
 refine qp J (qb ?_)
 rintro (_ | _) h15
 refine qn (kq7 J) (kq3 J) (ecF J (eskip (bqn (sqn (er (pq3 J (qb ?_)))))))
 rintro (_ | _) h16
 refine qp J (qg J (qp J (qg J (qp J (qg J (qp J (qb ?_)))))))
 rintro (_ | _) h17
 refine pq2 J (qn (kq6 J) (kq3 J) (er (pq3 J (hcall J J J (cside_c _ _) ?_))))
 rintro _ _ ⟨rfl,hq⟩
 obtain rfl:=hq.symm
 refine qp J (qn (kq7 J) (kq3 J) (eseq (er (qp J (qn (kq8 J) (kq3 J) (ecF J (eskip (sqn (eseq (er (pq3 J (qn (kq9 J) (kq3 J) (eblock ?_)))))))))))))
 first
 | refine gat_l1 j a _ (c + 1) (Bn_mu hC w a.n) (kidsA a) (by omega) (fun d hd=>H1 d (kidsA_sub a d hd)) (by rw [hbd,if_pos hob] at hc;omega) _ _ _ 0 (Nat.zero_le _) _ hS1 ?_
 | refine gat_l1 j a C c hC (kidsA a) (by omega) (fun d hd=>H1 d (kidsA_sub a d hd)) (by omega) _ _ _ 0 (Nat.zero_le _) _ hS ?_
 intro z1 S2 hS2 k2
 rw [List.drop_zero] at hS2
 refine bqx (sqn (eseq (er (qp J (qb ?_)))))
 rintro (_ | _) h18
 refine qn (kq6 J) (kq3 J) (ecF J (eskip (sqn (er (pq3 J (qn (kq5 J) (kq2 J) (eblock ?_)))))))
 first
 | refine gat_l2 j C c hC (kidsB a) (by omega) hzB (fun d hd=>H2 d (kidsB_sub a d hd)) (by omega) 0 (Nat.zero_le _) _ hS3 ?_
 | refine gat_l2 j C c hC (kidsB a) (by omega) hzB (fun d hd=>H2 d (kidsB_sub a d hd)) (by omega) 0 (Nat.zero_le _) _ hS2 ?_
 rotate_left
 cases h18
 exact absurd (Odt h17) (by omega)
 exact absurd (Odt h16) (by omega)
 refine qn (kq7 J) (kq3 J) (ecT J (ereg (qp J ?_)))
 refine qp (t:=.loc 5 (0 + (sideOf w).toNat * 1)) (by cases w <;> rfl) ?_
 refine qp (t:=.val (.map (j.o w))) (by cases w <;> rfl) ?_
 refine qp rfl (qp rfl (hmu (id:=j.o w) (m:=setM (O w)) rfl rfl rfl rfl (hS.ho w) ?_))
 rw [show (AV.lit (.bool true)).er=B true from rfl,setM_add]
 have hS:=hS.put w a.n
 have k1:Ch j.X s _:=Ch.set (Ch.refl s) (fun _=>j.Xo w) (.map (.int .i64) (setM (addV (O w) a.n)))
 refine qk (kq5 J) (kq3 J) (bqn (sqn (er (pq3 J (qb ?_)))))
 rintro (_ | _) h19
 refine qp J (qg J (qp J (qg J (qp J (qg J (qp J (qb ?_)))))))
 rintro (_ | _) h20
 refine pq2 J (qn (kq6 J) (kq3 J) (er (pq3 J (hcall J J J (cside_c _ _) ?_))))
 rintro _ _ ⟨rfl,hq⟩
 obtain rfl:=hq.symm
 refine qp J (qn (kq7 J) (kq3 J) (eseq (er (qp J (qn (kq8 J) (kq3 J) (ecF J (eskip (sqn (eseq (er (pq3 J (qn (kq9 J) (kq3 J) (eblock ?_)))))))))))))
 first
 | refine gat_l1 j a _ (c + 1) (Bn_mu hC w a.n) (kidsA a) (by omega) (fun d hd=>H1 d (kidsA_sub a d hd)) (by rw [hbd,if_pos hob] at hc;omega) _ _ _ 0 (Nat.zero_le _) _ hS1 ?_
 | refine gat_l1 j a C c hC (kidsA a) (by omega) (fun d hd=>H1 d (kidsA_sub a d hd)) (by omega) _ _ _ 0 (Nat.zero_le _) _ hS ?_
 intro z1 S2 hS2 k2
 rw [List.drop_zero] at hS2
 refine bqx (sqn (eseq (er (qp J (qb ?_)))))
 rintro (_ | _) h21
 refine qn (kq6 J) (kq3 J) (ecF J (eskip (sqn (er (pq3 J (qn (kq5 J) (kq2 J) (eblock ?_)))))))
 first
 | refine gat_l2 j C c hC (kidsB a) (by omega) hzB (fun d hd=>H2 d (kidsB_sub a d hd)) (by omega) 0 (Nat.zero_le _) _ hS3 ?_
 | refine gat_l2 j C c hC (kidsB a) (by omega) hzB (fun d hd=>H2 d (kidsB_sub a d hd)) (by omega) 0 (Nat.zero_le _) _ hS2 ?_
 rotate_left
 cases h21
 exact absurd (Odt h20) (by omega)
 exact absurd (Odt h19) (by omega)
 all_goals
  intro z2 S4 hS4 k4
  rw [List.drop_zero] at hS4
  refine bqx (fqn J ?_)
  first
  | exact ⟨rfl,gat_hit hop hw2 hcv ‹_› hS4,k1.trans (k2.trans k4)⟩
  | exact ⟨rfl,gat_miss hop hw2 hcv ‹_› hS4,k2.trans k4⟩
  | exact ⟨rfl,gat_bnd hob hw hC hS4,k1.trans (k2.trans (k3.trans k4))⟩
  | exact ⟨rfl,gat_gen (of_decide_eq_false h1) (of_decide_eq_false h2) (of_decide_eq_false h3) (of_decide_eq_false h4) hS4,k2.trans k4⟩
  | skip
end Go.Sim.Kd
namespace Go.Sim.Kd
open Go Go.Sim
theorem gather_c (j:GJ) (a:Node) (hz:a.sz ≤ 2 ^ 40):GaC j a:=by
 induction a using Node.ind with
 | h a ih1 ih2 =>
   refine fun s C O c=>gather_c0 j a hz (fun b hb=>ih1 b hb (by have:=Node.sz_arg hb;omega)) (fun b hb=>ih2 b hb ?_) s C O c
   have h1:=Node.sz_br hb
   have h2:=b.sz_body
   omega
theorem cntM_nil:cntM (fun _=>none)=fun _=>none:=by
 funext k
 cases k <;> try rfl
 rename_i kd n
 cases kd <;> rfl
theorem NewMap_c (s:Sg):HC p N20_ [] s (fun r s'=>∃ i0 i1,r=[.agg [.map i0,.map i1]] ∧ s'.ob i0=some (.map (.int .i64) fun _=>none) ∧ s'.ob i1=some (.map (.int .i64) fun _=>none) ∧ s.nx ≤ i0 ∧ s.nx ≤ i1 ∧ i0 ≠ i1 ∧ i0 < s'.nx ∧ i1 < s'.nx ∧ Ch (fun _=>False) s s'):=by
 refine hcf J f20_ J ?_
 simp only [chainOf]
 refine er (hal dn (qn (kq1 J) (kq1 J) (er (hmkm (hmkm (hbuild J J (lq2 J) (hstl J J J J (Nlb J) (lq2 J) (qn (kq1 J) (kq1 J) (eret (fqr J ?_))))))))))
 refine ⟨s.nx,s.nx + 1,rfl,?_,new_ob,Nat.le_refl _,Nat.le_succ _,by omega,Nat.lt_succ_of_le (Nat.le_succ _),Nat.lt_succ_self _,⟨Chg.new (Chg.new (Chg.refl s)),Nat.le_refl _,fun _ _=>rfl⟩⟩
 exact (new_lt (Nat.lt_succ_self _)).trans new_ob
theorem nBd_sz (a:Node):nBd a ≤ a.sz:=by
 induction a using Node.ind with
 | h a ih1 ih2 =>
   have e:a.sz=1 + szNs a.args + szBs a.brs:=by cases a;simp only [Node.sz,Node.args,Node.brs]
   have h1:∀ l:List Node,(∀ b ∈ l,nBd b ≤ b.sz) → nBds l ≤ szNs l:=fun l=>by
    induction l with
    | nil=>exact fun _=>Nat.le_refl _
    | cons b l ih =>
      intro h
      have:=h b (by simp)
      have:=ih fun c hc=>h c (by simp [hc])
      simp only [nBds,szNs]
      omega
   have h2:∀ l:List Br,(∀ b ∈ l,nBd b.body ≤ b.body.sz) → bBds l ≤ szBs l:=fun l=>by
    induction l with
    | nil=>exact fun _=>Nat.le_refl _
    | cons b l ih =>
      intro h
      have h3:=h b (by simp)
      have:=ih fun c hc=>h c (by simp [hc])
      have h4:=bBd_eq b
      have h5:b.sz=1 + b.vars.length + b.co.length + b.body.sz:=by cases b;simp only [Br.sz,Br.vars,Br.co,Br.body]
      simp only [bBds,szBs]
      omega
   rw [nBd_eq,e]
   have:=h1 a.args ih1
   have:=h2 a.brs ih2
   split <;> omega
theorem free_gs (s:Sg):GS ⟨s.nx + 2,s.nx + 3,s.nx,s.nx + 1⟩ (fun _ _=>0) (fun _ _=>false) ((((s.new (.map (.int .i64) fun _=>none)).new (.map (.int .i64) fun _=>none)).new (.map (.int .i64) fun _=>none)).new (.map (.int .i64) fun _=>none)):=by
 refine ⟨fun w=>⟨fun _=>none,?_,fun _=>rfl⟩,fun w=>?_,fun w=>?_,fun w=>?_,by simp,by simp,fun w w'=>?_⟩
 ·rw [cntM_nil]
  cases w
  ·exact (new_lt (Nat.lt_succ_self _)).trans new_ob
  exact new_ob
 ·rw [setM_nil]
  cases w
  ·exact (new_lt (by show s.nx < s.nx + 1 + 1 + 1;omega)).trans ((new_lt (by show s.nx < s.nx + 1 + 1;omega)).trans ((new_lt (Nat.lt_succ_self _)).trans new_ob))
  exact (new_lt (by show s.nx + 1 < s.nx + 1 + 1 + 1;omega)).trans ((new_lt (Nat.lt_succ_self _)).trans new_ob)
 ·cases w <;> simp [GJ.c,Sg.new]
 ·cases w <;> simp [GJ.o,Sg.new] <;> omega
 cases w <;> cases w' <;> simp [GJ.c,GJ.o] <;> omega
theorem free_c (s:Sg) (a:Node) (hz:a.sz ≤ 2 ^ 39):HC p N41_ [.agg a.cs] s (fun r s'=>∃ o0 o1,r=[.agg [.map o0,.map o1]] ∧ s'.ob o0=some (.map (.int .i64) (setM (frN a false))) ∧ s'.ob o1=some (.map (.int .i64) (setM (frN a true))) ∧ s.nx ≤ o0 ∧ s.nx ≤ o1 ∧ o0 ≠ o1 ∧ o0 < s'.nx ∧ o1 < s'.nx ∧ Ch (fun _=>False) s s'):=by
 refine hcf J f41_ J ?_
 simp only [chainOf]
 refine eseq (ereg (hbox (dc dn rfl) rfl (lc rfl (lc rfl (lc rfl (lc rfl (lc rfl (ln rfl)))))) (hal (dc (dc dn rfl) rfl) (qk (kc rfl (kc rfl kn)) (kc rfl (kc rfl kn)) (sqn (eseq (ereg (hmkm (hmkm (hbuild rfl rfl (lc rfl (lc rfl (ln rfl))) (hal (dc (dc (dc (dc (dc dn rfl) rfl) rfl) rfl) rfl) (hstl rfl rfl rfl rfl (Nlb rfl) (lc rfl (lc rfl (ln rfl))) (qk (kc rfl (kc rfl (kc rfl kn))) (kc rfl (kc rfl (kc rfl kn))) (sqn (eseq (ereg (hlda rfl rfl (lc rfl (lc rfl (lc rfl (lc rfl (lc rfl (ln rfl)))))) (hmkm (hmkm (hbuild rfl rfl (lc rfl (lc rfl (ln rfl))) (hlda rfl rfl (lc rfl (lc rfl (ln rfl))) (hcall rfl rfl rfl (gather_c ⟨s.nx + 2,s.nx + 3,s.nx,s.nx + 1⟩ a (by omega) _ (fun _ _=>0) (fun _ _=>false) 0 (free_gs s) (fun w n=>⟨Int.le_refl _,Int.le_refl _⟩) (by have:=nBd_sz a;omega)) ?_))))))))))))))))))))))
 rintro _ S1 ⟨rfl,hS1,k1⟩
 have h0:=hS1.ho false
 have h2:=hS1.ho true
 have e:addF (fun _ _=>false) (fun _ _=>0) (frN a)=frN a:=by
  funext w v
  simp [addF]
 rw [e] at h0 h2
 have k0:Ch (fun i=>s.nx ≤ i) s ((((s.new (.map (.int .i64) fun _=>none)).new (.map (.int .i64) fun _=>none)).new (.map (.int .i64) fun _=>none)).new (.map (.int .i64) fun _=>none)):=⟨Chg.new (Chg.new (Chg.new (Chg.new (Chg.refl s)))),Nat.le_refl _,fun _ _=>rfl⟩
 have kk:=(k0.trans (k1.mono fun i _ hx=>by
  obtain ⟨w,hx⟩:=hx
  cases w <;> simp [GJ.c,GJ.o] at hx <;> omega)).mono (Y:=fun _=>False) fun i hi h=>by omega
 have hn:=k1.c.nx
 have hn:s.nx + 4 ≤ S1.nx:=hn
 refine qn (kq2 J) (kq2 J) (er (hlda J J (lq2 J) (hstl J J J J (Nlb J) (lq2 J) (qn (kq1 J) (kq1 J) (eret (fqr J ?_))))))
 exact ⟨s.nx,s.nx + 1,rfl,h0,h2,Nat.le_refl _,Nat.le_succ _,by omega,by omega,by omega,kk⟩
end Go.Sim.Kd
namespace Go.Sim.Kd
open Go Go.Sim
def RW (c:Caller) (post:List AIns) (kp kpl:List Nat) (body:AC) (b3 it id t cc e:Nat):List (Value × AV) → Fr → Fr → Prop
 | [],fr,r=>itOk it id fr=true ∧ r={ fr with env:=upd (upd fr.env t none) cc none }
 | (k,v) :: L,fr,r=>itOk it id fr=true ∧ ∃ f3,HL c post { fr with env:=upd (upd (upd fr.env t none) cc none) e (some (.tup [keyA k,v])) } (fun f2=>EX c body (f2.keep kp kpl) fun ex f=>(ex=.norm ∨ ex=.exit b3) ∧ f=f3) ∧ RW c post kp kpl body b3 it id t cc e L f3 r
theorem RW.run {c:Caller} {post:List AIns} {kp kpl:List Nat} {body:AC} {b3 it id t cc e:Nat}:∀ {L:List (Value × AV)} {fr r:Fr},RW c post kp kpl body b3 it id t cc e L fr r →
 ∃ n,rounds (fun f=>inB b3 ((exL c post f).bind fun f2=>aexec c n body (f2.keep kp kpl))) it id t cc e L fr=some (.norm,r)
 | [],fr,r,⟨h1,h2⟩=>⟨0,by simp only [rounds,if_pos h1,h2]⟩
 | (k,v) :: L,fr,r,⟨h1,f3,⟨f2,h2,ex,f4,h3,h4,h5⟩,h6⟩=>by
  subst h5
  obtain ⟨n1,h7⟩:=RW.run h6
  obtain ⟨n2,h3⟩:=aexecW_iff.1 h3
  refine ⟨max n1 n2,?_⟩
  have h8:=aexec_le (fun _ _ _ _ x=>x) (Nat.le_max_right n1 n2) h3
  have h9:rounds (fun f=>inB b3 ((exL c post f).bind fun f2=>aexec c (max n1 n2) body (f2.keep kp kpl))) it id t cc e L f4=some (.norm,r):=rounds_le (fun f r hx=>inB_le (fun r hx=>by
   simp only [Obe] at hx ⊢
   obtain ⟨f2,k1,k2⟩:=hx
   exact ⟨f2,k1,aexec_le (fun _ _ _ _ x=>x) (Nat.le_max_left n1 n2) k2⟩) hx) h7
  simp only [rounds,if_pos h1,h2,Obs,h8]
  rcases h4 with rfl | rfl
  ·simp only [inB,Obs]
   exact h9
  simp only [inB,Obs,if_true]
  exact h9
theorem ermap {p:Pg} {pre:List AIns} {kk:KK} {m:AO} {it t cc bid b3 e:Nat} {post:List AIns} {kp kpl:List Nat} {body:AC} {k kl:List Nat} {fr f1 r1:Fr} {id:Nat} {mp:Value → Option AV} {L0:List (Value × AV)} {Q:Ex → Fr → Prop}
 (h1:exL (callL p) pre fr=some f1) (h2:evV f1.env m=some (.map id)) (h3:f1.sg.ob id=some (.map kk mp)) (hkk:KK.same kk kk=true) (hL0:Lists mp L0)
 (hr:∀ L,Lists mp L → RW (callL p) post kp kpl body b3 it f1.sg.nx t cc e L (f1.hidden id it) r1)
 (hQ:Q .norm (Fr.keep k kl { r1 with sg:=r1.sg.set id (.map kk mp) })):EX (callL p) (.rmap pre kk m it t cc bid b3 e post kp kpl body k kl) fr Q:=by
 obtain ⟨Ls,hLs⟩:=lists_fin hL0
 obtain ⟨n,hn⟩:=fin_ex (Pn:=fun n L=>rounds (fun f=>inB b3 ((exL (callL p) post f).bind fun f2=>aexec (callL p) n body (f2.keep kp kpl))) it f1.sg.nx t cc e L (f1.hidden id it)=some (.norm,r1))
  (fun a b L hab hx=>rounds_le (fun f r hx=>inB_le (fun r hx=>by
    simp only [Obe] at hx ⊢
    obtain ⟨f2,k1,k2⟩:=hx
    exact ⟨f2,k1,aexec_le (fun _ _ _ _ x=>x) hab k2⟩) hx) hx) (C:=Lists mp) Ls fun L _ hL=>(hr L hL).run
 refine ⟨.norm,Fr.keep k kl { r1 with sg:=r1.sg.set id (.map kk mp) },aexecW_iff.2 ⟨n,?_⟩,hQ⟩
 simp only [aexec,Obe]
 refine ⟨f1,h1,.map id,h2,rmapOf_iff.2 (.inr ⟨by simp,(id,mp),(.norm,r1),?_,⟨L0,hL0⟩,fun L hL=>hn L (hLs L hL) hL,rfl⟩)⟩
 simp only [mapOf,h3,hkk,if_true]
theorem lists_nil {mp:Value → Option AV} {L:List (Value × AV)} (h0:Lists mp []) (h:Lists mp L):L=[]:=by
 cases L with
 | nil=>rfl
 | cons x L=>exact absurd ((h0.ok x.1 x.2).2 ((h.ok x.1 x.2).1 (by simp))) (by simp)
theorem lists_cons {mp:Value → Option AV} {L L0:List (Value × AV)} {x:Value × AV} (h0:Lists mp (x :: L0)) (h:Lists mp L):L ≠ []:=by
 rintro rfl
 exact absurd ((h.ok x.1 x.2).2 ((h0.ok x.1 x.2).1 (by simp))) (by simp)
def nub:List Int → List Int
 | []=>[]
 | a :: l=>if a ∈ l then nub l else a :: nub l
theorem nub_mem {l:List Int} {x:Int}:x ∈ nub l ↔ x ∈ l:=by
 induction l with
 | nil=>exact Iff.rfl
 | cons a l ih =>
   rw [nub]
   split
   ·rename_i h
    rw [ih]
    refine ⟨fun h=>by simp [h],fun h2=>?_⟩
    rcases List.mem_cons.1 h2 with rfl | h2
    ·exact h
    exact h2
   rw [List.mem_cons,List.mem_cons,ih]
theorem nub_nd (l:List Int):(nub l).Nodup:=by
 induction l with
 | nil=>exact List.nodup_nil
 | cons a l ih =>
   rw [nub]
   split
   ·exact ih
   rename_i h
   exact List.nodup_cons.2 ⟨fun e=>h (nub_mem.1 e),ih⟩
theorem lists_set {X:Int → Bool} {l:List Int} (h:∀ v,X v=true → v ∈ l):∃ L,Lists (setM X) L:=by
 refine ⟨((nub l).filter X).map fun v=>(.int .i64 v,B true),?_,fun k v=>?_⟩
 ·rw [List.map_map]
  refine List.Pairwise.map _ (fun a b hab e=>hab ?_) ((nub_nd l).filter X)
  simpa using e
 rw [List.mem_map]
 constructor
 ·rintro ⟨u,hu,e⟩
  cases e
  have:=(List.mem_filter.1 hu).2
  simp [setM,this]
 intro e
 cases k <;> try cases e
 rename_i kd u
 cases kd <;> try cases e
 simp only [setM] at e
 split at e
 ·rename_i hu
  cases e
  exact ⟨u,List.mem_filter.2 ⟨nub_mem.2 (h u hu),hu⟩,rfl⟩
 cases e
theorem fr_fin (a:Node):∃ l:List Int,(∀ w v,frN a w v=true → v ∈ l) ∧ l.length + nBd a ≤ a.sz:=by
 induction a using Node.ind with
 | h a ih1 ih2 =>
   have e:a.sz=1 + szNs a.args + szBs a.brs:=by cases a;simp only [Node.sz,Node.args,Node.brs]
   have h1:∀ l:List Node,(∀ b ∈ l,∃ l:List Int,(∀ w v,frN b w v=true → v ∈ l) ∧ l.length + nBd b ≤ b.sz) → ∃ l':List Int,(∀ w v,frNs l w v=true → v ∈ l') ∧ l'.length + nBds l ≤ szNs l:=fun l=>by
    induction l with
    | nil=>exact fun _=>⟨[],fun w v h=>(by cases h),Nat.le_refl _⟩
    | cons b l ih =>
      intro h
      obtain ⟨l1,k1,k2⟩:=h b (by simp)
      obtain ⟨l2,k3,k4⟩:=ih fun c hc=>h c (by simp [hc])
      refine ⟨l1 ++ l2,fun w v h=>?_,?_⟩
      ·rw [frNs,Bool.or_eq_true] at h
       exact List.mem_append.2 (h.imp (k1 w v) (k3 w v))
      simp only [List.length_append,nBds,szNs]
      omega
   have h2:∀ l:List Br,(∀ b ∈ l,∃ l:List Int,(∀ w v,frN b.body w v=true → v ∈ l) ∧ l.length + nBd b.body ≤ b.body.sz) → ∃ l':List Int,(∀ w v,frBs l w v=true → v ∈ l') ∧ l'.length + bBds l ≤ szBs l:=fun l=>by
    induction l with
    | nil=>exact fun _=>⟨[],fun w v h=>(by cases h),Nat.le_refl _⟩
    | cons b l ih =>
      intro h
      obtain ⟨l1,k1,k2⟩:=h b (by simp)
      obtain ⟨l2,k3,k4⟩:=ih fun c hc=>h c (by simp [hc])
      have h4:=bBd_eq b
      have h5:b.sz=1 + b.vars.length + b.co.length + b.body.sz:=by cases b;simp only [Br.sz,Br.vars,Br.co,Br.body]
      refine ⟨l1 ++ l2,fun w v h=>?_,?_⟩
      ·rw [frBs,Bool.or_eq_true,frB_eq,Bae] at h
       exact List.mem_append.2 (h.imp (fun h=>k1 w v h.1) (k3 w v))
      simp only [List.length_append,bBds,szBs]
      omega
   obtain ⟨l1,k1,k2⟩:=h1 a.args ih1
   obtain ⟨l2,k3,k4⟩:=h2 a.brs ih2
   have hb:=nBd_eq a
   by_cases h0:a.op=0 ∨ a.op=5
   ·refine ⟨a.n :: (l1 ++ l2),fun w v h=>?_,?_⟩
    ·rw [frN_eq,if_pos h0] at h
     have:=(Odt h).2
     simp [this]
    rw [if_neg (by omega)] at hb
    have:=nBd_sz a
    simp only [List.length_cons,List.length_append]
    omega
   refine ⟨l1 ++ l2,fun w v h=>?_,?_⟩
   ·rw [frN_eq,if_neg h0] at h
    split at h
    ·cases h
    rw [Bool.or_eq_true,Bae] at h
    exact List.mem_append.2 (h.imp (fun h=>k1 w v h.1) (k3 w v))
   simp only [List.length_append]
   split at hb <;> omega
end Go.Sim.Kd
namespace Go.Sim.Kd
open Go Go.Sim
theorem ek {c:Caller} {code:AC} {k kl:List Nat} {E E':Nat → Option TV} {L L':Nat → Option (List AV)} {n:Nat} {v:Nat → Bool} {D:List (Nat × List AV)} {S:Sg} {Q:Ex → Fr → Prop} (h1:keepE k E=E') (h2:keepE kl L=L') (h:EX c code ⟨E',L',n,v,D,S⟩ Q):EX c code (Fr.keep k kl ⟨E,L,n,v,D,S⟩) Q:=by
 subst h1 h2
 exact h
abbrev avE (bx it:Nat) (c8:AV) (w:Bool):Nat → Option TV:=uv (upd (uv (uv (uv (fun _=>none) 14 (.ptr it 0)) 8 (c8)) 4 (I (sideOf w))) 3 (some (.loc 3 0))) 1 (.ptr bx 0)
theorem av_round {j:RI} {pp:Bool → Int} {l:Int} {bx it:Nat} {w:Bool} {u:Int} {X:Int → Bool} {E:Nat → Option TV} {L:Nat → Option (List AV)} {cs:List AV} {c8:AV} {n:Nat} {v:Nat → Bool} {D:List (Nat × List AV)} {S:Sg}
 (e1:E 1=some (.val (.ptr bx 0))) (e3:E 3=some (.loc 3 0)) (e4:E 4=some (.val (I (sideOf w)))) (e8:E 8=some (.val c8)) (e14:E 14=some (.val (.ptr it 0))) (hL:L=upd (fun _=>none) 3 (some cs))
 (hb:S.ob bx=some (.row [.ptr j.k 0])) (hk:S.ob j.k=some (.row (j.row pp l))) (ht:S.ob (j.t w)=some (.map (.int .i64) (setM X))) :
 HL (callL p) F40_r7 ⟨upd (upd (upd E 15 none) 16 none) 17 (some (.tup [.lit (.int .i64 u),B true])),L,n,v,D,S⟩ fun f2=>EX (callL p) F40_l2 (f2.keep [1,3,4,5,8,14] [3]) fun ex f=>(ex=.norm ∨ ex=.exit 3) ∧ f=⟨avE bx it c8 w,L,n,v,D,S.set (j.t w) (.map (.int .i64) (setM (addV X u)))⟩:=by
 subst hL
 refine pq2 J (h0 (ek (kc e1 (kc e3 (kc e4 (kc J (kc e8 (kc e14 kn)))))) (kq1 J) ?_))
 refine ereg (hldo (y:=.ptr j.k 0) rfl hb rfl (qp rfl (qp rfl (qp rfl ?_))))
 refine qp (t:=.val (.ptr j.k (0 + 0 + (sideOf w).toNat * 1))) (by cases w <;> rfl) ?_
 refine hldo (y:=.map (j.t w)) rfl hk (by cases w <;> rfl) (qp rfl ?_)
 refine hmu (id:=j.t w) (m:=setM X) rfl rfl rfl rfl ht ?_
 rw [show (AV.lit (.bool true)).er=B true from rfl,setM_add]
 exact qk (kc rfl (kc rfl (kc rfl (kc rfl (kc rfl kn))))) (kc rfl kn) ⟨.inl rfl,rfl⟩
def addL (X:Int → Bool) (us:List Int):Int → Bool:=fun x=>X x || decide (x ∈ us)
theorem addL_cons (X:Int → Bool) (u:Int) (us:List Int):addL (addV X u) us=addL X (u :: us):=by
 funext x
 simp only [addL,addV,List.mem_cons]
 by_cases h:x=u <;> by_cases h2:x ∈ us <;> simp [h,h2]
def entB (u:Int):Value × AV:=(.int .i64 u,B true)
theorem lists_ent {X:Int → Bool} {L:List (Value × AV)} (h:Lists (setM X) L):∃ us:List Int,L=us.map entB ∧ ∀ x,x ∈ us ↔ X x=true:=by
 have key:∀ M:List (Value × AV),(∀ q ∈ M,q ∈ L) → ∃ us:List Int,M=us.map entB:=fun M=>by
  induction M with
  | nil=>exact fun _=>⟨[],rfl⟩
  | cons q M ih =>
    intro hq
    obtain ⟨us,e⟩:=ih fun q h=>hq q (by simp [h])
    obtain ⟨k,x⟩:=q
    have h1:=(h.ok k x).1 (hq _ (by simp))
    cases k <;> try cases h1
    rename_i kd u
    cases kd <;> try cases h1
    simp only [setM] at h1
    split at h1
    ·cases h1
     exact ⟨u :: us,by rw [e];rfl⟩
    cases h1
 obtain ⟨us,rfl⟩:=key L fun _ h=>h
 refine ⟨us,J,fun x=>?_⟩
 have h1:=h.ok (.int .i64 x) (B true)
 rw [show ((Value.int .i64 x,B true) ∈ us.map entB)=((Value.int .i64 x,B true) ∈ us.map entB) from rfl,List.mem_map] at h1
 constructor
 ·intro hx
  have h2:=h1.1 ⟨x,hx,rfl⟩
  simp only [setM] at h2
  split at h2
  ·assumption
  cases h2
 intro hx
 obtain ⟨y,h3,h4⟩:=h1.2 (by simp [setM,hx])
 cases h4
 exact h3
theorem set_set (s:Sg) (i:Nat) (o o':AObj):(s.set i o).set i o'=s.set i o':=by
 unfold Sg.set
 congr 1
 funext k
 simp only [upd]
 split <;> rfl
theorem set_self {s:Sg} {i:Nat} {o:AObj} (h:s.ob i=some o):s.set i o=s:=by
 have e:upd s.ob i (some o)=s.ob:=by
  funext k
  simp only [upd]
  split
  ·rename_i e;rw [e,h]
  rfl
 unfold Sg.set
 rw [e]
theorem av_rw {j:RI} {pp:Bool → Int} {l:Int} {bx it:Nat} {w:Bool} {L:Nat → Option (List AV)} {cs:List AV} {c8:AV} {n:Nat} {v:Nat → Bool} {D:List (Nat × List AV)} (hL:L=upd (fun _=>none) 3 (some cs)) (hbt:bx ≠ j.t w) (hkt:j.k ≠ j.t w):∀ (us:List Int) (X:Int → Bool) (E:Nat → Option TV) (S:Sg),
 E 1=some (.val (.ptr bx 0)) → E 3=some (.loc 3 0) → E 4=some (.val (I (sideOf w))) → E 8=some (.val c8) → E 14=some (.val (.ptr it 0)) → S.ob bx=some (.row [.ptr j.k 0]) → S.ob j.k=some (.row (j.row pp l)) → S.ob (j.t w)=some (.map (.int .i64) (setM X)) →
 RW (callL p) F40_r7 [1,3,4,5,8,14] [3] F40_l2 3 14 it 15 16 17 (us.map entB) ⟨E,L,n,v,D,S⟩ ⟨upd (upd (if us=[] then E else avE bx it c8 w) 15 none) 16 none,L,n,v,D,S.set (j.t w) (.map (.int .i64) (setM (addL X us)))⟩
 | [],X,E,S,e1,e3,e4,e8,e14,hb,hk,ht=>by
   refine ⟨by simp [itOk,e14],?_⟩
   rw [if_pos rfl,show addL X []=X from by funext x;simp [addL],set_self ht]
 | u :: us,X,E,S,e1,e3,e4,e8,e14,hb,hk,ht=>by
   refine ⟨by simp [itOk,e14],_,av_round e1 e3 e4 e8 e14 hL hb hk ht,?_⟩
   have h:=av_rw (n:=n) (v:=v) (D:=D) (c8:=c8) (it:=it) hL hbt hkt us (addV X u) (avE bx it c8 w) (S.set (j.t w) (.map (.int .i64) (setM (addV X u)))) rfl rfl rfl rfl rfl ((set_ne hbt).trans hb) ((set_ne hkt).trans hk) set_ob
   rw [set_set,addL_cons,ite_self] at h
   rw [if_neg (by simp)]
   exact h
def avT (T F:Bool → Int → Bool) (i:Int):Bool → Int → Bool:=fun w v=>T w v || (decide (sideOf w < i) && F w v)
structure RA (j:RI) (T:Bool → Int → Bool) (pp:Bool → Int) (l:Int) (S:Sg):Prop where
 hk:S.ob j.k=some (.row (j.row pp l))
 ht:∀ w,S.ob (j.t w)=some (.map (.int .i64) (setM (T w)))
 kl:j.k < S.nx
 tl:∀ w,j.t w < S.nx
 kt:∀ w,j.k ≠ j.t w
theorem RA.keep {j:RI} {T:Bool → Int → Bool} {pp:Bool → Int} {l:Int} {S S':Sg} {Y:Nat → Prop} (h:RA j T pp l S) (k:Chg Y S S') (hk:¬ Y j.k) (ht:∀ w,¬ Y (j.t w)):RA j T pp l S' :=
 ⟨(k.ob _ h.kl hk).trans h.hk,fun w=>(k.ob _ (h.tl w) (ht w)).trans (h.ht w),Nat.lt_of_lt_of_le h.kl k.nx,fun w=>Nat.lt_of_lt_of_le (h.tl w) k.nx,h.kt⟩
theorem RN.ra {j:RI} {T:Bool → Int → Bool} {pp:Bool → Int} {l:Int} {M:NM} {S:Sg} (h:RN j T pp l M S):RA j T pp l S:=⟨h.hk,h.ht,h.kl,h.tl,h.kt⟩
theorem RA.rn {j:RI} {T T0:Bool → Int → Bool} {pp:Bool → Int} {l:Int} {M:NM} {S S':Sg} (h:RN j T0 pp l M S) (h':RA j T pp l S') (k:Ch (fun i=>i=j.t0 ∨ i=j.t1) S S'):RN j T pp l M S':=by
 refine ⟨h'.hk,h'.ht,fun w=>(k.c.ob _ (h.il w) ?_).trans (h.hm w),h'.kl,h'.tl,fun w=>Nat.lt_of_lt_of_le (h.il w) k.c.nx,h.kt,h.ki,h.ti,h.ne⟩
 rintro (e | e)
 ·exact h.ti false w e.symm
 exact h.ti true w e.symm
structure AS (j:RI) (T F:Bool → Int → Bool) (pp:Bool → Int) (l:Int) (bx:Nat) (f:Bool → Nat) (i:Int) (S:Sg):Prop where
 rn:RA j (avT T F i) pp l S
 hb:S.ob bx=some (.row [.ptr j.k 0])
 hf:∀ w,S.ob (f w)=some (.map (.int .i64) (setM (F w)))
 fl:∀ w,f w < S.nx
structure AF (j:RI) (bx:Nat) (f:Bool → Nat):Prop where
 bt:∀ w,bx ≠ j.t w
 bf:∀ w,bx ≠ f w
 fk:∀ w,j.k ≠ f w
 ft:∀ w w',j.t w ≠ f w'
 ff:∀ w,f (!w) ≠ f w
 tt:∀ w,j.t (!w) ≠ j.t w
theorem AS.step {j:RI} {T F:Bool → Int → Bool} {pp:Bool → Int} {l:Int} {bx:Nat} {f:Bool → Nat} {w:Bool} {S:Sg} (h:AS j T F pp l bx f (sideOf w) S) (a:AF j bx f) {us:List Int} (hu:∀ x,x ∈ us ↔ F w x=true) :
 AS j T F pp l bx f (sideOf w + 1) (Sg.set (Sg.set { S with ob:=upd S.ob (f w) none,nx:=S.nx + 1 } (j.t w) (.map (.int .i64) (setM (addL (avT T F (sideOf w) w) us)))) (f w) (.map (.int .i64) (setM (F w)))):=by
 have ho:∀ i,i ≠ f w → i ≠ j.t w → (Sg.set (Sg.set { S with ob:=upd S.ob (f w) none,nx:=S.nx + 1 } (j.t w) (.map (.int .i64) (setM (addL (avT T F (sideOf w) w) us)))) (f w) (.map (.int .i64) (setM (F w)))).ob i=S.ob i:=fun i h1 h2=>by
  rw [set_ne h1,set_ne h2]
  exact upd_ne _ _ h1
 have hn:(Sg.set (Sg.set { S with ob:=upd S.ob (f w) none,nx:=S.nx + 1 } (j.t w) (.map (.int .i64) (setM (addL (avT T F (sideOf w) w) us)))) (f w) (.map (.int .i64) (setM (F w)))).nx=S.nx + 1:=rfl
 have eT:addL (avT T F (sideOf w) w) us=avT T F (sideOf w + 1) w:=by
  funext x
  simp only [addL,avT]
  rw [decide_eq_false (Int.lt_irrefl _),decide_eq_true (show sideOf w < sideOf w + 1 by omega)]
  have:=hu x
  by_cases hx:x ∈ us
  ·simp [hx,this.1 hx]
  have h2:F w x=false:=by
   cases e:F w x
   ·rfl
   exact absurd (this.2 e) hx
  simp [hx,h2]
 have eN:avT T F (sideOf w + 1) (!w)=avT T F (sideOf w) (!w):=by
  funext x
  cases w <;> simp [avT,sideOf]
 refine ⟨⟨(ho _ (a.fk w) (h.rn.kt w)).trans h.rn.hk,fun w'=>?_,by rw [hn];have:=h.rn.kl;omega,fun w'=>by rw [hn];have:=h.rn.tl w';omega,h.rn.kt⟩,(ho _ (a.bf w) (a.bt w)).trans h.hb,fun w'=>?_,fun w'=>by rw [hn];have:=h.fl w';omega⟩
 ·by_cases e:w'=w
  ·subst e
   rw [set_ne (a.ft w' w'),set_ob,eT]
  have e:w'=!w:=by cases w <;> cases w' <;> simp_all
  subst e
  rw [ho _ (a.ft _ _) (a.tt w),eN]
  exact h.rn.ht _
 by_cases e:w'=w
 ·subst e
  exact set_ob
 have e:w'=!w:=by cases w <;> cases w' <;> simp_all
 subst e
 exact (ho _ (a.ff w) (Ne.symm (a.ft w _))).trans (h.hf _)
theorem AS.ch {X:Nat → Prop} {S:Sg} {f t:Nat} {o o':AObj} (hf:¬ X f → S.ob f=some o') (hX:X t):Ch X S (Sg.set (Sg.set { S with ob:=upd S.ob f none,nx:=S.nx + 1 } t o) f o'):=by
 refine ⟨⟨Nat.le_succ _,fun i hi hx=>?_,Nat.le_refl _,fun _ _=>J,J⟩,Nat.le_refl _,fun _ _=>J⟩
 by_cases e:i=f
 ·subst e
  rw [set_ob,hf hx]
 rw [set_ne e,set_ne (fun e=>hx (by rw [e];exact hX))]
 exact upd_ne _ _ e
end Go.Sim.Kd
namespace Go.Sim.Kd
open Go Go.Sim
theorem side_of {i:Int} (h:0 ≤ i) (h2:i < 2):∃ w:Bool,i=sideOf w:=by
 rcases (show i=0 ∨ i=1 by omega) with e | e
 ·exact ⟨false,e⟩
 exact ⟨true,e⟩
theorem side_le (w:Bool):0 ≤ sideOf w ∧ sideOf w < 2:=by cases w <;> simp [sideOf]
abbrev avB (bx it:Nat) (f:Bool → Nat) (w:Bool):Nat → Option TV:=uv (uv (upd (uv (uv (upd (uv (uv (fun _=>none) 8 (I (sideOf w))) 4 (I (sideOf w))) 3 (some (.loc 3 0))) 1 (.ptr bx 0)) 11 (I (sideOf w))) 12 (some (.loc 3 (0 + (sideOf w).toNat * 1)))) 13 (.map (f w))) 14 (.ptr it 0)
theorem av_l {j:RI} {T F:Bool → Int → Bool} {pp:Bool → Int} {l:Int} {bx:Nat} {f:Bool → Nat} (a:AF j bx f) {lf:List Int} (hF:∀ w x,F w x=true → x ∈ lf) (i:Int) (hi:0 ≤ i) (hi2:i ≤ 2) {n:Nat} {v:Nat → Bool} {D:List (Nat × List AV)} {S:Sg} {Q:Ex → Fr → Prop} (hS:AS j T F pp l bx f i S)
 (hX:∀ S',AS j T F pp l bx f 2 S' → Ch (fun k=>k=j.t0 ∨ k=j.t1 ∨ k=f false ∨ k=f true) S S' → Q (.exit 0) ⟨uv (upd (uv (uv (fun _=>none) 9 (B false)) 8 (I 2)) 3 (some (.loc 3 0))) 1 (.ptr bx 0),upd (fun _=>none) 3 (some [.map (f false),.map (f true)]),n,v,D,S'⟩) :
 EX (callL p) (.loop F40_l1) ⟨uv (upd (uv (fun _=>none) 8 (I i)) 3 (some (.loc 3 0))) 1 (.ptr bx 0),upd (fun _=>none) 3 (some [.map (f false),.map (f true)]),n,v,D,S⟩ Q:=by
 refine eloop (er (qp J (qb ?_)))
 rintro (_ | _) h1
 ·refine qn (kq4 J) (kq1 J) (eseq (ecF J (eexit (sqx (sqx ?_)))))
  have h1:=of_decide_eq_false h1
  obtain rfl:i=2:=by omega
  exact hX S hS (Ch.refl _)
 obtain ⟨w,rfl⟩:=side_of hi (Odt h1)
 refine qn (kq4 J) (kq1 J) (eseq (ecT J (eskip (sqn (eseq (eblock (er (pq2 J (qn (kq4 J) (kq1 J) ?_)))))))))
 obtain ⟨f1,hp1,hp2⟩:HL (callL p) F40_r5 ⟨uv (upd (uv (uv (fun _=>none) 8 (I (sideOf w))) 4 (I (sideOf w))) 3 (some (.loc 3 0))) 1 (.ptr bx 0),upd (fun _=>none) 3 (some [.map (f false),.map (f true)]),n,v,D,S⟩
  (fun q=>q=⟨uv (upd (uv (uv (upd (uv (uv (fun _=>none) 8 (I (sideOf w))) 4 (I (sideOf w))) 3 (some (.loc 3 0))) 1 (.ptr bx 0)) 11 (I (sideOf w))) 12 (some (.loc 3 (0 + (sideOf w).toNat * 1)))) 13 (.map (f w)),upd (fun _=>none) 3 (some [.map (f false),.map (f true)]),n,v,D,S⟩) :=
  qp rfl (qp (t:=.loc 3 (0 + (sideOf w).toNat * 1)) (by cases w <;> rfl) (qp (t:=.val (.map (f w))) (by cases w <;> rfl) (h0 rfl)))
 subst hp2
 obtain ⟨L0,hL0⟩:=lists_set (X:=F w) (hF w)
 obtain ⟨us,eL,hu⟩:=lists_ent hL0
 have hn:∀ i,i ≠ f w → ({ S with ob:=upd S.ob (f w) none,nx:=S.nx + 1 }:Sg).ob i=S.ob i:=fun i h=>upd_ne _ _ h
 have eX:(avT T F (sideOf w)) w=T w:=by
  funext x
  simp only [avT]
  rw [decide_eq_false (Int.lt_irrefl _)]
  simp
 have hs1:=hS.step a hu
 refine ermap (L0:=L0) (r1:=⟨upd (upd (if us=[] then avB bx S.nx f w else avE bx S.nx (I (sideOf w)) w) 15 none) 16 none,upd (fun _=>none) 3 (some [.map (f false),.map (f true)]),n,v,D,Sg.set { S with ob:=upd S.ob (f w) none,nx:=S.nx + 1 } (j.t w) (.map (.int .i64) (setM (addL (avT T F (sideOf w) w) us)))⟩) hp1 rfl (hS.hf w) rfl hL0 (fun L hL=>?_) ?_
 ·obtain ⟨us',rfl,hu'⟩:=lists_ent hL
  have h:=av_rw (j:=j) (pp:=pp) (l:=l) (bx:=bx) (it:=S.nx) (w:=w) (c8:=I (sideOf w)) (n:=n) (v:=v) (D:=D) (L:=upd (fun _=>none) 3 (some [.map (f false),.map (f true)])) rfl (a.bt w) (hS.rn.kt w) us' (avT T F (sideOf w) w)
   (avB bx S.nx f w)
   { S with ob:=upd S.ob (f w) none,nx:=S.nx + 1 } rfl rfl rfl rfl rfl ((hn _ (a.bf w)).trans hS.hb) ((hn _ (a.fk w)).trans hS.rn.hk) ((hn _ (a.ft w w)).trans (hS.rn.ht w))
  have e1:addL (avT T F (sideOf w) w) us'=addL (avT T F (sideOf w) w) us:=by
   funext x
   have h1:=hu x
   have h2:=hu' x
   simp only [addL]
   rw [show (decide (x ∈ us')=decide (x ∈ us)) from by rw [decide_eq_decide,h1,h2]]
  have e2:(us'=[])=(us=[]):=by
   refine propext ⟨fun e=>?_,fun e=>?_⟩
   ·cases us with
    | nil=>rfl
    | cons x us=>exact absurd ((hu' x).2 ((hu x).1 (by simp))) (by simp [e])
   cases us' with
   | nil=>rfl
   | cons x us'=>exact absurd ((hu x).2 ((hu' x).1 (by simp))) (by simp [e])
  simp only [e1,e2] at h
  exact h
 have kk:keepE [1,3,8] (upd (upd (if us=[] then (avB bx S.nx f w) else avE bx S.nx (I (sideOf w)) w) 15 none) 16 none)=uv (upd (uv (fun _=>none) 8 (I (sideOf w))) 3 (some (.loc 3 0))) 1 (.ptr bx 0):=by
  split
  ·exact kc rfl (kc rfl (kc rfl kn))
  exact kc rfl (kc rfl (kc rfl kn))
 simp only [Fr.keep]
 rw [kk,show keepE [3] (upd (fun _=>none) 3 (some [AV.map (f false),AV.map (f true)]))=upd (fun _=>none) 3 (some [AV.map (f false),AV.map (f true)]) from kc rfl kn]
 refine bqn (sqn (ereg (hadd (r:=sideOf w + 1) rfl rfl (i64w (by have:=side_le w;omega)) (qp rfl (qk (kc rfl (kc rfl (kc rfl kn))) (kc rfl kn) ?_)))))
 have k1:Ch (fun k=>k=j.t0 ∨ k=j.t1 ∨ k=f false ∨ k=f true) S (Sg.set (Sg.set { S with ob:=upd S.ob (f w) none,nx:=S.nx + 1 } (j.t w) (.map (.int .i64) (setM (addL (avT T F (sideOf w) w) us)))) (f w) (.map (.int .i64) (setM (F w)))) :=
  AS.ch (fun _=>hS.hf w) (by cases w <;> simp [RI.t])
 exact av_l a hF (sideOf w + 1) (by have:=side_le w;omega) (by have:=side_le w;omega) hs1 fun S' h k=>hX S' h (k1.trans k)
termination_by (2 - i).toNat
decreasing_by have:=side_le w;omega
end Go.Sim.Kd
namespace Go.Sim.Kd
open Go Go.Sim
theorem avoid_c (s:Sg) (j:RI) (T:Bool → Int → Bool) (pp:Bool → Int) (l:Int) (bx:Nat) (a:Node) (hz:a.sz ≤ 2 ^ 39) (hR:RA j T pp l s) (hb:s.ob bx=some (.row [.ptr j.k 0])) (hbl:bx < s.nx) (hbt:∀ w,bx ≠ j.t w) (htt:j.t0 ≠ j.t1):HC p N40_ [.agg a.cs,.ptr bx 0] s (fun r s'=>r=[] ∧ RA j (fun w v=>T w v || frN a w v) pp l s' ∧ Ch (fun i=>i=j.t0 ∨ i=j.t1) s s'):=by
 refine hcf J f40_ J ?_
 simp only [chainOf]
 refine er (hbox (dq2 J) J (lq5 J) (qn (kq2 J) (kq1 J) (er (hlda J J (lq5 J) (hcall J J J (free_c s a hz) ?_)))))
 rintro _ S1 ⟨o0,o1,rfl,h1,h2,n0,n1,ne,l0,l1,k1⟩
 have hkl:=hR.kl
 have htl:=hR.tl
 have R1:=hR.keep (Y:=fun _=>False) k1.c id (fun _=>id)
 have b1:S1.ob bx=some (.row [.ptr j.k 0]):=(k1.c.ob _ hbl id).trans hb
 have aF:AF j bx (fun w=>if w=true then o1 else o0):=by
  refine ⟨hbt,fun w=>?_,fun w=>?_,fun w w'=>?_,fun w=>?_,fun w=>?_⟩
  ·cases w <;> simp <;> omega
  ·cases w <;> simp <;> omega
  ·have:=htl w;cases w' <;> simp <;> omega
  ·cases w <;> simp <;> omega
  cases w <;> simp [RI.t] <;> omega
 obtain ⟨lf,hlf,_⟩:=fr_fin a
 have hA:AS j T (frN a) pp l bx (fun w=>if w=true then o1 else o0) 0 S1:=by
  refine ⟨?_,b1,fun w=>?_,fun w=>?_⟩
  ·have e:avT T (frN a) 0=T:=by
    funext w v
    simp only [avT]
    rw [decide_eq_false (by have:=side_le w;omega)]
    simp
   rw [e]
   exact R1
  ·cases w
   ·exact h1
   exact h2
  cases w
  ·exact l0
  exact l1
 refine hal (dc (dc (dc (dc dn rfl) rfl) rfl) rfl) (hstl rfl rfl rfl rfl (Nlb rfl) (lc rfl (lc rfl (ln rfl))) (qk (kc rfl (kc rfl kn)) (kc rfl kn) (sqn (eseq (ereg (qp rfl (qk (kc rfl (kc rfl (kc rfl kn))) (kc rfl kn) (sqn (eblock (av_l (f:=fun w=>if w=true then o1 else o0) aF (hlf ·) 0 (Int.le_refl _) (by omega) hA ?_))))))))))
 intro S2 h3 k2
 refine bqx (fqn J ⟨J,?_,(k1.mono fun _ _ h=>h.elim).trans k2 |>.mono fun i hi h=>?_⟩)
 ·have e:avT T (frN a) 2=fun w v=>T w v || frN a w v:=by
   funext w v
   simp only [avT]
   rw [decide_eq_true (by have:=side_le w;omega)]
   simp
  have h4:=h3.rn
  rw [e] at h4
  exact h4
 rcases h with h | h | h | h
 ·exact .inl h
 ·exact .inr h
 ·simp at h;omega
 simp at h;omega
theorem dis_l (l:List Int) (hl:l.length ≤ 1) (id:Nat) (i:Nat) (hi:i ≤ l.length) {n:Nat} {v:Nat → Bool} {D:List (Nat × List AV)} {S:Sg} {Q:Ex → Fr → Prop} (h0:i=0 → S.ob id=some (.map (.int .i64) fun _=>none))
 (hX:∀ k S',Ch (fun i=>i=id) S S' → Q (.exit 0) ⟨uv (uv (uv (uv (uv e0 10 (B false)) 9 (I k)) 8 (I (l.map I).length)) 7 (ints l)) 3 (.map id),(fun _=>none),n,v,D,S'⟩):EX (callL p) (.loop F19_l1) ⟨uv (uv (uv (uv e0 9 (I i)) 8 (I (l.map I).length)) 7 (ints l)) 3 (.map id),(fun _=>none),n,v,D,S⟩ Q:=by
 refine eloop (er (qp J (qb ?_)))
 rintro (_ | _) h1
 ·refine qn (kq5 J) kn (eseq (ecF J (eexit (sqx ?_))))
  exact hX _ _ (Ch.refl _)
 refine qn (kq5 J) kn (eseq (ecT J (eskip (sqn (eseq (eblock (er ?_)))))))
 have hlt:i < l.length:=by simpa using h1
 have hm:=h0 (by omega)
 obtain ⟨a,ha⟩:=get_of_lt hlt
 refine hia (y:=I a) rfl rfl (by omega) (by simp [ha]) rfl (qp rfl (qp rfl (qk (kc rfl (kc rfl (kc rfl (kc rfl (kc rfl kn))))) kn (sqn (eseq (eseq (ereg (qp rfl (qp rfl (hlk (id:=id) (m:=fun _=>none) rfl rfl rfl hm ?_))))))))))
 refine qb ?_
 rintro (_ | _) h2
 ·refine qk (kc rfl (kc rfl (kc rfl (kc rfl (kc rfl (kc rfl kn)))))) kn (sqn (ecF rfl (eskip (sqn (ereg (qp rfl (qp rfl (hmu (id:=id) (m:=fun _=>none) rfl rfl rfl rfl hm ?_))))))))
  refine qk (kq4 J) kn (bqn (sqn (ereg (hadd J J (i64w (by omega)) (qp J (qk (kq4 J) kn ?_))))))
  exact dis_l l hl id (i + 1) (by omega) (fun h=>by omega) fun k S' k2=>hX k S' ((Ch.set (X:=fun i=>i=id) (Ch.refl _) (fun _=>rfl) _).trans k2)
 cases h2
termination_by l.length - i
decreasing_by all_goals omega
theorem distinct_c (s:Sg) (l:List Int) (hl:l.length ≤ 1):HC p N19_ [ints l] s (fun r s'=>r=[B true] ∧ Ch (fun _=>False) s s'):=by
 refine hcf J f19_ J ?_
 simp only [chainOf]
 refine er (qp J (qn (kq1 J) kn (er (hmkm (qp J (qn (kq2 J) kn (eseq (er (pq3 J (qn (kq4 J) kn (eblock (dis_l l hl s.nx 0 (Nat.zero_le _) (fun _=>new_ob) ?_))))))))))))
 intro k S1 k1
 refine bqx (sqn (er (qp J (qn (kq1 J) kn (eret (fqr J ?_))))))
 exact ⟨rfl,((show Ch (fun i=>i=s.nx) s _ from ⟨Chg.new (Chg.refl s),Nat.le_refl _,fun _ _=>rfl⟩).trans k1).mono fun i hi h=>by omega⟩
end Go.Sim.Kd
namespace Go.Sim.Kd
open Go Go.Sim
structure RP (j:RI) (A G:Bool → Int → Bool) (w0:Bool) (i:Int) (bx:Nat) (M:NM) (pp:Bool → Int) (l:Int) (S:Sg):Prop where
 ra:RA j (fun w v=>A w v || (decide (sideOf w0 < i) && G w v)) pp l S
 hb:S.ob bx=some (.row [.ptr j.k 0])
 bl:bx < S.nx
 hm:∀ w,S.ob (j.i w)=some (.map (.int .i64) (ndM (M w)))
 il:∀ w,j.i w < S.nx
structure RF (j:RI) (bx:Nat):Prop where
 bt:∀ w,bx ≠ j.t w
 bi:∀ w,bx ≠ j.i w
 tt:j.t0 ≠ j.t1
 ki:∀ w,j.k ≠ j.i w
 ti:∀ w w',j.t w ≠ j.i w'
 ii:j.i0 ≠ j.i1
theorem itok {it id:Nat} {fr:Fr} (h:fr.env it=some (.val (.ptr id 0))):itOk it id fr=true:=by simp [itOk,h]
def hidS (S:Sg) (i:Nat):Sg:={ S with ob:=upd S.ob i none,nx:=S.nx + 1 }
theorem hid_ne {S:Sg} {i k:Nat} (h:k ≠ i):(hidS S i).ob k=S.ob k:=upd_ne _ _ h
theorem ndM_none:ndM (fun _=>none)=fun _=>none:=by
 funext k
 cases k <;> try rfl
 rename_i kd n
 cases kd <;> rfl
theorem lists_none {L:List (Value × AV)}:Lists (ndM fun _=>none) L ↔ L=[]:=by
 rw [ndM_none]
 constructor
 ·intro h
  cases L with
  | nil=>rfl
  | cons x L=>exact nomatch (h.ok x.1 x.2).1 (by simp)
 rintro rfl
 exact ⟨List.nodup_nil,fun k v=>⟨fun h=>(by cases h),fun h=>(by cases h)⟩⟩
theorem lists_one {k:Int} {x:Node} {L:List (Value × AV)}:Lists (ndM fun u=>if u=k then some x else none) L ↔ L=[(.int .i64 k,.agg x.cs)]:=by
 have key:∀ kk v,ndM (fun u=>if u=k then some x else none) kk=some v ↔ (kk,v)=(.int .i64 k,.agg x.cs):=by
  intro kk v
  constructor
  ·intro h
   cases kk <;> try cases h
   rename_i kd u
   cases kd <;> try cases h
   simp only [ndM] at h
   by_cases e:u=k
   ·subst e
    simp at h
    rw [h]
   rw [if_neg e] at h
   cases h
  intro h
  cases h
  simp [ndM]
 constructor
 ·intro h
  have hm:∀ q ∈ L,q=(.int .i64 k,.agg x.cs):=fun q hq=>(key q.1 q.2).1 ((h.ok q.1 q.2).1 hq)
  have hne:(Value.int .i64 k,AV.agg x.cs) ∈ L:=(h.ok _ _).2 ((key _ _).2 rfl)
  cases L with
  | nil=>cases hne
  | cons a L =>
    cases L with
    | nil=>rw [hm a (by simp)]
    | cons b L =>
      have h1:=hm a (by simp)
      have h2:=hm b (by simp)
      have:=h.nd
      rw [h1,h2] at this
      simp at this
 rintro rfl
 refine ⟨by simp,fun kk v=>?_⟩
 rw [key,List.mem_singleton]
theorem RF.ine {j:RI} {bx:Nat} (h:RF j bx) {w w':Bool} (hw:w' ≠ w):j.i w' ≠ j.i w:=RI.ine h.ii hw
theorem RP.next {j:RI} {A G:Bool → Int → Bool} {w0 w:Bool} {bx:Nat} {M:NM} {pp:Bool → Int} {l:Int} {S S2:Sg} (h:RP j A G w0 (sideOf w) bx M pp l S) (f:RF j bx) {T:Bool → Int → Bool} (k:Ch (fun i=>i=j.t0 ∨ i=j.t1) (hidS S (j.i w)) S2) (r:RA j T pp l S2)
 (hT:∀ u v,T u v=(A u v || (decide (sideOf w0 < sideOf w + 1) && G u v))) :
 RP j A G w0 (sideOf w + 1) bx M pp l (S2.set (j.i w) (.map (.int .i64) (ndM (M w)))) ∧ Ch (fun i=>i=j.t0 ∨ i=j.t1) S (S2.set (j.i w) (.map (.int .i64) (ndM (M w)))):=by
 have hn:S.nx + 1 ≤ S2.nx:=k.c.nx
 have eT:T=fun u v=>A u v || (decide (sideOf w0 < sideOf w + 1) && G u v):=funext fun u=>funext fun v=>hT u v
 have ht:∀ i,(∀ w,i ≠ j.t w) → ¬ (i=j.t0 ∨ i=j.t1):=fun i h e=>e.elim (h false) (h true)
 subst eT
 have hx:∀ i,i < S.nx → i ≠ j.i w → ¬ (i=j.t0 ∨ i=j.t1) → (S2.set (j.i w) (.map (.int .i64) (ndM (M w)))).ob i=S.ob i:=fun i h1 h2 h3=>by
  rw [set_ne h2]
  exact (k.c.ob i (Nat.lt_succ_of_lt h1) h3).trans (hid_ne h2)
 refine ⟨⟨⟨(set_ne (f.ki w)).trans r.hk,fun u=>(set_ne (f.ti u w)).trans (r.ht u),r.kl,r.tl,r.kt⟩,(hx _ h.bl (f.bi w) (ht _ f.bt)).trans h.hb,by have:=h.bl;show bx < S2.nx;omega,fun u=>?_,fun u=>by have:=h.il u;show j.i u < S2.nx;omega⟩,
  ⟨⟨by show S.nx ≤ S2.nx;omega,fun i h1 h2=>?_,k.c.gn,k.c.gl,k.c.Q⟩,k.mn,k.mu⟩⟩
 ·by_cases e:u=w
  ·subst e
   exact set_ob
  exact (hx _ (h.il u) (f.ine e) (ht _ fun w'=>Ne.symm (f.ti w' u))).trans (h.hm u)
 by_cases e:i=j.i w
 ·subst e
  rw [set_ob]
  exact (h.hm w).symm
 exact hx i h1 e h2
theorem rep_l {j:RI} {A G:Bool → Int → Bool} {w0:Bool} {bx:Nat} {M:NM} {pp:Bool → Int} {l:Int} {k:Int} {x a:Node} (f:RF j bx) (hx:x.sz ≤ 2 ^ 39) (hG:G=frN x) (hM:∀ w,M w=if w=w0 then (fun u=>if u=k then some x else none) else fun _=>none) (i:Int) (hi:0 ≤ i) (hi2:i ≤ 2) {n:Nat} {v:Nat → Bool} {D:List (Nat × List AV)} {S:Sg} {Q:Ex → Fr → Prop} (hS:RP j A G w0 i bx M pp l S)
 (hX:∀ S',RP j A G w0 2 bx M pp l S' → Ch (fun k=>k=j.t0 ∨ k=j.t1) S S' → Q (.exit 0) ⟨upd (upd (upd (uv (uv (uv (uv e0 26 (B false)) 25 (I (2))) 9 (.fn N40_ [] [.ptr bx 0])) 8 (.ptr bx 0)) 6 (some (.loc 6 0))) 4 (some (.loc 4 0))) 3 (some (.loc 3 0)),upd (upd (upd (fun _=>none) 6 (some [I 0,I 0,I 0,.slice .full 5 [],.slice .full 7 []])) 4 (some [.map j.i0,.map j.i1])) 3 (some a.cs),n,v,D,S'⟩) :
 EX (callL p) (.loop F21_l1) ⟨upd (upd (upd (uv (uv (uv e0 25 (I (i))) 9 (.fn N40_ [] [.ptr bx 0])) 8 (.ptr bx 0)) 6 (some (.loc 6 0))) 4 (some (.loc 4 0))) 3 (some (.loc 3 0)),upd (upd (upd (fun _=>none) 6 (some [I 0,I 0,I 0,.slice .full 5 [],.slice .full 7 []])) 4 (some [.map j.i0,.map j.i1])) 3 (some a.cs),n,v,D,S⟩ Q:=by
 refine eloop (er (qp J (qb ?_)))
 rintro (_ | _) h1
 ·refine qn (kq7 J) (kq3 J) (eseq (ecF J (eexit (sqx (sqx ?_)))))
  have h1:=of_decide_eq_false h1
  obtain rfl:i=2:=by omega
  exact hX S hS (Ch.refl _)
 obtain ⟨w,rfl⟩:=side_of hi (Odt h1)
 refine qn (kq7 J) (kq3 J) (eseq (ecT J (eskip (sqn (eseq (eblock (er (pq2 J (qn (kq7 J) (kq3 J) ?_)))))))))
 obtain ⟨f1,hp1,hp2⟩:HL (callL p) F21_r7 ⟨upd (upd (upd (uv (uv (uv (uv e0 25 (I (sideOf w))) 10 (I (sideOf w))) 9 (.fn N40_ [] [.ptr bx 0])) 8 (.ptr bx 0)) 6 (some (.loc 6 0))) 4 (some (.loc 4 0))) 3 (some (.loc 3 0)),upd (upd (upd (fun _=>none) 6 (some [I 0,I 0,I 0,.slice .full 5 [],.slice .full 7 []])) 4 (some [.map j.i0,.map j.i1])) 3 (some a.cs),n,v,D,S⟩ (fun q=>q=⟨uv (upd (uv (upd (upd (upd (uv (uv (uv (uv e0 25 (I (sideOf w))) 10 (I (sideOf w))) 9 (.fn N40_ [] [.ptr bx 0])) 8 (.ptr bx 0)) 6 (some (.loc 6 0))) 4 (some (.loc 4 0))) 3 (some (.loc 3 0))) 28 (I (sideOf w))) 29 (some (.loc 4 (0 + (sideOf w).toNat * 1)))) 30 (.map (j.i w)),upd (upd (upd (fun _=>none) 6 (some [I 0,I 0,I 0,.slice .full 5 [],.slice .full 7 []])) 4 (some [.map j.i0,.map j.i1])) 3 (some a.cs),n,v,D,S⟩) :=
  qp rfl (qp (t:=.loc 4 (0 + (sideOf w).toNat * 1)) (by cases w <;> rfl) (qp (t:=.val (.map (j.i w))) (by cases w <;> rfl) (h0 rfl)))
 subst hp2
 have fin:∀ S2:Sg,RP j A G w0 (sideOf w + 1) bx M pp l (S2.set (j.i w) (.map (.int .i64) (ndM (M w)))) ∧ Ch (fun i=>i=j.t0 ∨ i=j.t1) S (S2.set (j.i w) (.map (.int .i64) (ndM (M w)))) → EX (callL p) (.reg F21_r11 [] [3,4,6,8,9,25] [3,4,6]) ⟨upd (upd (upd (uv (uv (uv e0 25 (I (sideOf w))) 9 (.fn N40_ [] [.ptr bx 0])) 8 (.ptr bx 0)) 6 (some (.loc 6 0))) 4 (some (.loc 4 0))) 3 (some (.loc 3 0)),upd (upd (upd (fun _=>none) 6 (some [I 0,I 0,I 0,.slice .full 5 [],.slice .full 7 []])) 4 (some [.map j.i0,.map j.i1])) 3 (some a.cs),n,v,D,S2.set (j.i w) (.map (.int .i64) (ndM (M w)))⟩ (SQ (callL p) (.loop F21_l1) Q):=fun S2 h2=>by
  refine ereg (hadd (r:=sideOf w + 1) rfl rfl (i64w (by have:=side_le w;omega)) (qp rfl (qk (kc rfl (kc rfl (kc rfl (kc rfl (kc rfl (kc rfl kn)))))) (kc rfl (kc rfl (kc rfl kn))) ?_)))
  exact rep_l f hx hG hM (sideOf w + 1) (by have:=side_le w;omega) (by have:=side_le w;omega) h2.1 fun S' h k=>hX S' h (h2.2.trans k)
 by_cases hw:w=w0
 ·have raH:RA j (fun u v=>A u v || (decide (sideOf w0 < sideOf w) && G u v)) pp l (hidS S (j.i w)):=⟨(hid_ne (f.ki w)).trans hS.ra.hk,fun u=>(hid_ne (f.ti u w)).trans (hS.ra.ht u),Nat.lt_succ_of_lt hS.ra.kl,fun u=>Nat.lt_succ_of_lt (hS.ra.tl u),hS.ra.kt⟩
  obtain ⟨res,S2,hc,rfl,ra2,ch2⟩:=avoid_c (hidS S (j.i w)) j _ pp l bx x hx raH ((hid_ne (f.bi w)).trans hS.hb) (Nat.lt_succ_of_lt hS.bl) f.bt f.tt
  have hMw:=hM w
  rw [if_pos hw] at hMw
  refine ermap (L0:=[(.int .i64 k,.agg x.cs)]) (r1:=⟨upd (upd (upd (upd (upd (uv (uv (uv (uv e0 31 (.ptr S.nx 0)) 25 (I (sideOf w))) 9 (.fn N40_ [] [.ptr bx 0])) 8 (.ptr bx 0)) 6 (some (.loc 6 0))) 4 (some (.loc 4 0))) 3 (some (.loc 3 0))) 32 none) 33 none,upd (upd (upd (fun _=>none) 6 (some [I 0,I 0,I 0,.slice .full 5 [],.slice .full 7 []])) 4 (some [.map j.i0,.map j.i1])) 3 (some a.cs),n,v,D,S2⟩) hp1 rfl (hS.hm w) rfl (by rw [hMw];exact lists_one.2 rfl) (fun L hL=>?_) ?_
  ·rw [hMw] at hL
   obtain rfl:=lists_one.1 hL
   refine ⟨itok J,⟨upd (upd (upd (uv (uv (uv (uv e0 31 (.ptr S.nx 0)) 25 (I (sideOf w))) 9 (.fn N40_ [] [.ptr bx 0])) 8 (.ptr bx 0)) 6 (some (.loc 6 0))) 4 (some (.loc 4 0))) 3 (some (.loc 3 0)),upd (upd (upd (fun _=>none) 6 (some [I 0,I 0,I 0,.slice .full 5 [],.slice .full 7 []])) 4 (some [.map j.i0,.map j.i1])) 3 (some a.cs),n,v,D,S2⟩,?_,itok J,J⟩
   refine qp J (hal (dc (dc (dz (dz (dq11 J))) J) J) (hstl J J J J (Nlb J) (lq5 J) (h0 (ek (kq8 J) (kq4 J) ?_))))
   refine ereg (qp rfl (hlda rfl rfl (lc rfl (lc rfl (lc rfl (lc rfl (lc rfl (ln rfl)))))) (hcall (R:=fun r s=>r=[] ∧ s=S2) rfl rfl rfl ⟨[],S2,hc,rfl,rfl⟩ ?_)))
   rintro _ _ ⟨rfl,rfl⟩
   exact qk (kc rfl (kc rfl (kc rfl (kc rfl (kc rfl (kc rfl (kc rfl kn))))))) (kc rfl (kc rfl (kc rfl kn))) ⟨.inl rfl,rfl⟩
  refine ek (kc rfl (kc rfl (kc rfl (kc rfl (kc rfl (kc rfl kn)))))) (kc rfl (kc rfl (kc rfl kn))) (bqn (i:=1) (sqn (fin S2 ?_)))
  refine hS.next f ch2 ra2 fun u v=>?_
  subst hw hG
  rw [decide_eq_false (Int.lt_irrefl _),decide_eq_true (show sideOf w < sideOf w + 1 by omega)]
  simp
 have hMw:=hM w
 rw [if_neg hw] at hMw
 refine ermap (L0:=[]) (r1:=⟨upd (upd (uv (uv (upd (uv (upd (upd (upd (uv (uv (uv (uv e0 25 (I (sideOf w))) 10 (I (sideOf w))) 9 (.fn N40_ [] [.ptr bx 0])) 8 (.ptr bx 0)) 6 (some (.loc 6 0))) 4 (some (.loc 4 0))) 3 (some (.loc 3 0))) 28 (I (sideOf w))) 29 (some (.loc 4 (0 + (sideOf w).toNat * 1)))) 30 (.map (j.i w))) 31 (.ptr S.nx 0)) 32 none) 33 none,upd (upd (upd (fun _=>none) 6 (some [I 0,I 0,I 0,.slice .full 5 [],.slice .full 7 []])) 4 (some [.map j.i0,.map j.i1])) 3 (some a.cs),n,v,D,hidS S (j.i w)⟩) hp1 rfl (hS.hm w) rfl (by rw [hMw];exact lists_none.2 rfl) (fun L hL=>?_) ?_
 ·rw [hMw] at hL
  obtain rfl:=lists_none.1 hL
  exact ⟨itok rfl,rfl⟩
 refine ek (kc rfl (kc rfl (kc rfl (kc rfl (kc rfl (kc rfl kn)))))) (kc rfl (kc rfl (kc rfl kn))) (bqn (i:=1) (sqn (fin (hidS S (j.i w)) ?_)))
 refine hS.next f (Ch.refl _) ⟨(hid_ne (f.ki w)).trans hS.ra.hk,fun u=>(hid_ne (f.ti u w)).trans (hS.ra.ht u),Nat.lt_succ_of_lt hS.ra.kl,fun u=>Nat.lt_succ_of_lt (hS.ra.tl u),hS.ra.kt⟩ fun u v=>?_
 congr 2
 rw [decide_eq_decide]
 have h3:sideOf w0 ≠ sideOf w:=by cases w <;> cases w0 <;> simp_all [sideOf]
 omega
termination_by (2 - i).toNat
decreasing_by have:=side_le w;omega
def repS (s:Sg) (i0 i1:Nat):Sg:=Sg.set ((((s.new (.map (.int .i64) fun _=>none)).new (.map (.int .i64) fun _=>none)).new (.row ((⟨s.nx + 2,s.nx,s.nx + 1,i0,i1⟩:RI).row (fun _=>0) 30000))).new (.row [.lit (.pointer none)])) (s.nx + 3) (.row [.ptr (s.nx + 2) 0])
theorem rep_init {s:Sg} {i0 i1:Nat} {M:NM} (m0:s.ob i0=some (.map (.int .i64) (ndM (M false)))) (m1:s.ob i1=some (.map (.int .i64) (ndM (M true)))) (l0:i0 < s.nx) (l1:i1 < s.nx) (ne:i0 ≠ i1) :
 RN ⟨s.nx + 2,s.nx,s.nx + 1,i0,i1⟩ (fun _ _=>false) (fun _=>0) 30000 M (repS s i0 i1) ∧ (repS s i0 i1).ob (s.nx + 3)=some (.row [.ptr (s.nx + 2) 0]) ∧ (repS s i0 i1).nx=s.nx + 4 ∧ RF ⟨s.nx + 2,s.nx,s.nx + 1,i0,i1⟩ (s.nx + 3):=by
 have o4:∀ i,i < s.nx → (repS s i0 i1).ob i=s.ob i:=fun i h=>by
  rw [repS,set_ne (by omega),new_lt (by show i < s.nx + 1 + 1 + 1;omega),new_lt (by show i < s.nx + 1 + 1;omega),new_lt (by show i < s.nx + 1;omega),new_lt h]
 have e0:(repS s i0 i1).ob s.nx=some (.map (.int .i64) fun _=>none):=by
  rw [repS,set_ne (by omega),new_lt (by show s.nx < s.nx + 1 + 1 + 1;omega),new_lt (by show s.nx < s.nx + 1 + 1;omega),new_lt (by show s.nx < s.nx + 1;omega),new_ob]
 have e1:(repS s i0 i1).ob (s.nx + 1)=some (.map (.int .i64) fun _=>none):=by
  rw [repS,set_ne (by omega),new_lt (by show s.nx + 1 < s.nx + 1 + 1 + 1;omega),new_lt (by show s.nx + 1 < s.nx + 1 + 1;omega)]
  exact new_ob
 have e2:(repS s i0 i1).ob (s.nx + 2)=some (.row ((⟨s.nx + 2,s.nx,s.nx + 1,i0,i1⟩:RI).row (fun _=>0) 30000)):=by
  rw [repS,set_ne (by omega),new_lt (by show s.nx + 2 < s.nx + 1 + 1 + 1;omega)]
  exact new_ob
 have en:(repS s i0 i1).nx=s.nx + 4:=rfl
 refine ⟨⟨e2,fun w=>?_,fun w=>?_,?_,fun w=>?_,fun w=>?_,fun w=>?_,fun w=>?_,fun w w'=>?_,ne⟩,set_ob,en,⟨fun w=>?_,fun w=>?_,?_,fun w=>?_,fun w w'=>?_,ne⟩⟩
 ·rw [setM_nil]
  cases w
  ·exact e0
  exact e1
 ·cases w
  ·exact (o4 _ l0).trans m0
  exact (o4 _ l1).trans m1
 ·rw [en];show s.nx + 2 < s.nx + 4;omega
 ·rw [en];cases w <;> simp [RI.t]
 ·rw [en];cases w <;> simp [RI.i] <;> omega
 ·cases w <;> simp [RI.t]
 ·cases w <;> simp [RI.i] <;> omega
 ·cases w <;> cases w' <;> simp [RI.t,RI.i] <;> omega
 ·cases w <;> simp [RI.t]
 ·cases w <;> simp [RI.i] <;> omega
 ·simp
 ·cases w <;> simp [RI.i] <;> omega
 cases w <;> cases w' <;> simp [RI.t,RI.i] <;> omega
theorem sz_pos (a:Node):1 ≤ a.sz:=by cases a;simp only [Node.sz];omega
theorem Replace_c (s:Sg) (a x:Node) (k:Int) (w0:Bool) (i0 i1:Nat) (M:NM) (hM:∀ w,M w=if w=w0 then (fun u=>if u=k then some x else none) else fun _=>none) (ha:a.sz ≤ 2 ^ 30) (hx:x.sz ≤ 2 ^ 30) (hcst:cst x.sz a ≤ 2 ^ 60)
 (m0:s.ob i0=some (.map (.int .i64) (ndM (M false)))) (m1:s.ob i1=some (.map (.int .i64) (ndM (M true)))) (l0:i0 < s.nx) (l1:i1 < s.nx) (ne:i0 ≠ i1):HC p N21_ [.agg a.cs,.agg [.map i0,.map i1],I 30000] s (fun r s'=>∃ z q b,r=[.agg z.cs,B b] ∧ (b=true → SubN (fun w v=>frN a w v || frN x w v) a M (fun _=>0) z q) ∧ z.sz ≤ cst x.sz a ∧ s'.Q=s.Q):=by
 have hx2:x.sz ≤ 2 ^ 39:=by omega
 obtain ⟨R0,b0,n0,RF0⟩:=rep_init m0 m1 l0 l1 ne
 have hMs:∀ w v y,M w v=some y → y.sz ≤ x.sz:=fun w v y h=>by
  rw [hM] at h
  split at h
  ·have h:(if v=k then some x else none)=some y:=h
   split at h
   ·cases h;exact Nat.le_refl _
   cases h
  cases h
 refine hcf J f21_ J ?_
 simp only [chainOf]
 refine eseq (ereg (hbox (dc (dc (dc dn rfl) rfl) rfl) rfl (lc rfl (lc rfl (lc rfl (lc rfl (lc rfl (ln rfl)))))) (hbox (dc (dc (dc (dc dn rfl) rfl) rfl) rfl) rfl (lc rfl (lc rfl (ln rfl))) (hal (dc (dc (dc (dc (dc dn rfl) rfl) rfl) rfl) rfl) (qp rfl (qk (kc rfl (kc rfl (kc rfl (kc rfl kn)))) (kc rfl (kc rfl (kc rfl kn))) (sqn (eseq (ereg (hmkm (hmkm (hbuild rfl rfl (lc rfl (lc rfl (ln rfl))) (qp rfl (hlda rfl rfl (lc rfl (lc rfl (ln rfl))) (hbuild rfl rfl (lc rfl (lc rfl (lc rfl (lc rfl (lc rfl (lc rfl (lc rfl (ln rfl)))))))) (hboxo (cs:=RI.row ⟨s.nx + 2,s.nx,s.nx + 1,i0,i1⟩ (fun _=>0) 30000) rfl rfl (hall (hsto (cs':=[.ptr (s.nx + 2) 0]) rfl rfl new_ob rfl (Nlb rfl) (by simp) rfl ?_))))))))))))))))))
 generalize hS0:Sg.set _ (Sg.nx (Sg.new (Sg.new (Sg.new s _) _) _)) _=S0
 have e0:repS s i0 i1=S0:=hS0
 rw [e0] at R0 b0 n0
 refine qn (kq4 J) (kq3 J) (er (pq2 J (qn (kq5 J) (kq3 J) (er (qp J (hlda J J (lq5 J) (hcall J J J (avoid_c S0 _ _ _ _ (s.nx + 3) a (by omega) R0.ra b0 (by omega) RF0.bt RF0.tt) ?_)))))))
 rintro _ S1 ⟨rfl,h1,k1⟩
 have hRP:RP ⟨s.nx + 2,s.nx,s.nx + 1,i0,i1⟩ (frN a) (frN x) w0 0 (s.nx + 3) M (fun _=>0) 30000 S1:=by
  have e:(fun w v=>frN a w v || (decide (sideOf w0 < 0) && frN x w v))=fun w v=>false || frN a w v:=by
   funext w v
   rw [decide_eq_false (by have:=side_le w0;omega)]
   simp
  have R1:=RA.rn R0 h1 k1
  refine ⟨by rw [e];exact h1,(k1.c.ob _ (by omega) ?_).trans b0,by have:=k1.c.nx;omega,R1.hm,R1.il⟩
  rintro (e | e)
  ·exact RF0.bt false e
  exact RF0.bt true e
 refine qk (kc rfl (kc rfl (kc rfl (kc rfl (kc rfl kn))))) (kc rfl (kc rfl (kc rfl kn))) (sqn (eseq (eseq (ereg (qp rfl (qk (kc rfl (kc rfl (kc rfl (kc rfl (kc rfl (kc rfl kn)))))) (kc rfl (kc rfl (kc rfl kn))) (sqn (eblock (rep_l (j:=(⟨s.nx + 2,s.nx,s.nx + 1,i0,i1⟩:RI)) (A:=frN a) (G:=frN x) (w0:=w0) (bx:=s.nx + 3) (M:=M) (pp:=fun _=>0) (l:=30000) (k:=k) (x:=x) (a:=a) RF0 hx2 rfl hM 0 (Int.le_refl _) (by omega) hRP ?_)))))))))
 intro S2 h2 k2
 have R2:=RA.rn R0 h2.ra (k1.trans k2)
 have b2:=h2.hb
 have eT:(fun w v=>frN a w v || (decide (sideOf w0 < 2) && frN x w v))=fun w v=>frN a w v || frN x w v:=by
  funext w v
  rw [decide_eq_true (side_le w0).2,Bta]
 rw [eT] at R2
 obtain ⟨la,a1,a2⟩:=fr_fin a
 obtain ⟨lx,x1,x2⟩:=fr_fin x
 have hnx:¬ RI.X ⟨s.nx + 2,s.nx,s.nx + 1,i0,i1⟩ (s.nx + 3):=by
  rintro (e | e | e)
  ·simp at e
  ·exact RF0.bi false e
  exact RF0.bi true e
 refine bqx (sqn (eseq (ereg (hldo (y:=.ptr (s.nx + 2) 0) rfl b2 rfl ?_))))
 refine hlda rfl rfl (lq5 rfl) (hcall rfl rfl rfl (sub_c _ _ (fun _=>la ++ lx) (fun w v hv=>List.mem_append.2 ((Bool.or_eq_true _ _ ▸ hv:frN a w v=true ∨ frN x w v=true).imp (a1 w v) (x1 w v))) x.sz (sz_pos x) (by omega) a ha S2 M (fun _=>0) 30000 0 R2 (fun w=>⟨Int.le_refl _,Int.add_nonneg (Int.natCast_nonneg _) (Int.le_refl 0)⟩) (fun w=>by simp only [List.length_append];omega) hMs (by omega) (by omega)) ?_)
 rintro _ S3 ⟨z,q,l',rfl,R3,P3,lo,le,su,zs,k3⟩
 have b3:=(k3.c.ob _ h2.bl hnx).trans b2
 refine hal (dc (dc (dc (dc (dc (dc (dc (dc (dc (dc dn rfl) rfl) rfl) rfl) rfl) rfl) rfl) rfl) rfl) rfl) (hstl rfl rfl rfl rfl (Nlb rfl) (lc rfl (lc rfl (lc rfl (lc rfl (lc rfl (ln rfl)))))) (qk (kc rfl (kc rfl (kc rfl kn))) (kc rfl (kc rfl kn)) (sqn (eseq (ereg (hlda rfl rfl (lc rfl (lc rfl (lc rfl (lc rfl (lc rfl (ln rfl)))))) (hldoq (y:=.ptr (s.nx + 2) 0) rfl rfl b3 rfl ?_)))))))
 refine qp rfl (qp rfl (hwop (r:=I l') (s':=S3) rfl (by simp only [wopOf,ldvOf,R3.hk,Obs];rfl) (qp rfl (hstl rfl rfl rfl rfl (Nlb rfl) (lc rfl (lc rfl (lc rfl (lc rfl (lc rfl (ln rfl)))))) (qp rfl (qk (kc rfl (kc rfl kn)) (kc rfl kn) (sqn (eret (fqr rfl ?_)))))))))
 exact ⟨z,q,decide (l' ≥ 0),rfl,fun h=>su (Odt h),zs,k3.c.Q.trans (k2.c.Q.trans (k1.c.Q.trans (by rw [← e0];rfl)))⟩
end Go.Sim.Kd
namespace Go.Sim.Kd
open Go Go.Sim
def insL (X:Int → Option Node):List Int → List Node → Int → Option Node
 | v :: vs,a :: l=>insL (fun u=>if u=v then some a else X u) vs l
 | _,_=>X
theorem ndM_ins (X:Int → Option Node) (v:Int) (a:Node):mset (ndM X) (.int .i64 v) (some (.agg a.cs))=ndM (fun u=>if u=v then some a else X u):=by
 funext k
 unfold mset
 by_cases h:k=.int .i64 v
 ·subst h;simp [ndM]
 rw [if_neg h]
 cases k <;> try rfl
 rename_i kd n
 cases kd <;> try rfl
 have hne:¬ n=v:=fun e=>h (by rw [e])
 simp [ndM,hne]
theorem sub_lx (a:Node) (xs:List Int) (ps:List Node) (hlen:xs.length=ps.length) (hs:xs.length ≤ 2 ^ 40) (u3 u4:AV) (i0 i1:Nat) (i:Nat) (hi:i ≤ xs.length) (X:Int → Option Node) {n:Nat} {v:Nat → Bool} {D:List (Nat × List AV)} {S:Sg} {Q:Ex → Fr → Prop} (hm:S.ob i0=some (.map (.int .i64) (ndM X)))
 (hX:∀ j S',S'.ob i0=some (.map (.int .i64) (ndM (insL X (xs.drop i) (ps.drop i)))) → Ch (fun k=>k=i0) S S' → Q (.exit 0) ⟨uv (uv (uv (upd (upd (upd (uv (uv (uv (uv e0 46 (B false)) 45 (I j)) 44 (I (xs.map I).length)) 43 (ints xs)) 12 (some (.loc 12 0))) 10 (some (.loc 10 0))) 5 (some (.loc 5 0))) 4 (u4)) 3 (u3)) 2 (SL 5 (ps.map Node.enc)),upd (upd (upd ((fun _=>none)) 12 (some ([.map i0,.map i1]))) 10 (some ([I 0,I 0,I 0,.slice .full 5 [],.slice .full 7 []]))) 5 (some (a.cs)),n,v,D,S'⟩):EX (callL p) (.loop F9_l1) ⟨uv (uv (uv (upd (upd (upd (uv (uv (uv e0 45 (I i)) 44 (I (xs.map I).length)) 43 (ints xs)) 12 (some (.loc 12 0))) 10 (some (.loc 10 0))) 5 (some (.loc 5 0))) 4 (u4)) 3 (u3)) 2 (SL 5 (ps.map Node.enc)),upd (upd (upd ((fun _=>none)) 12 (some ([.map i0,.map i1]))) 10 (some ([I 0,I 0,I 0,.slice .full 5 [],.slice .full 7 []]))) 5 (some (a.cs)),n,v,D,S⟩ Q:=by
 refine eloop (er (qp J (qb ?_)))
 rintro (_ | _) h1
 ·refine qn (kq10 J) (kq3 J) (eseq (ecF J (eexit (sqx ?_))))
  refine hX _ _ ?_ (Ch.refl _)
  rw [List.drop_eq_nil_of_le (by simp at h1 ⊢;omega)]
  exact hm
 refine qn (kq10 J) (kq3 J) (eseq (ecT J (eskip (sqn (eseq (eblock (er (qp J ?_))))))))
 have hlt:i < xs.length:=by simpa using h1
 obtain ⟨y,hy⟩:=get_of_lt hlt
 obtain ⟨c,hc⟩:=get_of_lt (l:=ps) (i:=i) (by omega)
 have hd:=drop_cons hy
 have hdq:=drop_cons hc
 refine hia (y:=I y) rfl rfl (by omega) (by simp [hy]) rfl (qp rfl (qp rfl (qp rfl (qk (kc rfl (kc rfl (kc rfl (kc rfl (kc rfl (kc rfl (kc rfl (kc rfl (kc rfl (kc rfl (kc rfl kn))))))))))) (kc rfl (kc rfl (kc rfl kn))) (sqn (ereg (qp rfl (qp rfl (qp rfl (qp rfl (qp rfl (hia (y:=.agg c.cs) rfl rfl (by omega) (by simp [hc,Node.enc_eq]) rfl (hlda rfl rfl (lc rfl (lc rfl (lc rfl (lc rfl (lc rfl (ln rfl)))))) (hmu (id:=i0) (m:=ndM X) rfl rfl rfl rfl hm ?_))))))))))))))
 rw [show (AV.agg _).er=AV.agg c.cs from rfl,ndM_ins]
 refine qk (kq9 J) (kq3 J) (bqn (sqn (ereg (hadd J J (i64w (by omega)) (qp J (qk (kq9 J) (kq3 J) ?_))))))
 refine sub_lx a xs ps hlen hs u3 u4 i0 i1 (i + 1) (by omega) _ set_ob fun j S' h c=>hX j S' ?_ ((Ch.set (X:=fun k=>k=i0) (Ch.refl _) (fun _=>rfl) _).trans c)
 rw [hd,hdq]
 exact h
termination_by xs.length - i
decreasing_by all_goals omega
theorem sub_la (a:Node) (as:List Int) (cs:List Node) (hlen:as.length=cs.length) (hs:as.length ≤ 2 ^ 40) (u3 u4:AV) (i0 i1:Nat) (i:Nat) (hi:i ≤ as.length) (X:Int → Option Node) {n:Nat} {v:Nat → Bool} {D:List (Nat × List AV)} {S:Sg} {Q:Ex → Fr → Prop} (hm:S.ob i1=some (.map (.int .i64) (ndM X)))
 (hX:∀ j S',S'.ob i1=some (.map (.int .i64) (ndM (insL X (as.drop i) (cs.drop i)))) → Ch (fun k=>k=i1) S S' → Q (.exit 2) ⟨uv (upd (upd (upd (uv (uv (uv (uv e0 61 (B false)) 60 (I j)) 59 (I (as.map I).length)) 58 (ints as)) 12 (some (.loc 12 0))) 10 (some (.loc 10 0))) 5 (some (.loc 5 0))) 4 (SL 5 (cs.map Node.enc)),upd (upd (upd ((fun _=>none)) 12 (some ([.map i0,.map i1]))) 10 (some ([I 0,I 0,I 0,.slice .full 5 [],.slice .full 7 []]))) 5 (some (a.cs)),n,v,D,S'⟩):EX (callL p) (.loop F9_l2) ⟨uv (upd (upd (upd (uv (uv (uv e0 60 (I i)) 59 (I (as.map I).length)) 58 (ints as)) 12 (some (.loc 12 0))) 10 (some (.loc 10 0))) 5 (some (.loc 5 0))) 4 (SL 5 (cs.map Node.enc)),upd (upd (upd ((fun _=>none)) 12 (some ([.map i0,.map i1]))) 10 (some ([I 0,I 0,I 0,.slice .full 5 [],.slice .full 7 []]))) 5 (some (a.cs)),n,v,D,S⟩ Q:=by
 refine eloop (er (qp J (qb ?_)))
 rintro (_ | _) h1
 ·refine qn (kq8 J) (kq3 J) (eseq (ecF J (eexit (sqx ?_))))
  refine hX _ _ ?_ (Ch.refl _)
  rw [List.drop_eq_nil_of_le (by simp at h1 ⊢;omega)]
  exact hm
 refine qn (kq8 J) (kq3 J) (eseq (ecT J (eskip (sqn (eseq (eblock (er (qp J ?_))))))))
 have hlt:i < as.length:=by simpa using h1
 obtain ⟨y,hy⟩:=get_of_lt hlt
 obtain ⟨c,hc⟩:=get_of_lt (l:=cs) (i:=i) (by omega)
 have hd:=drop_cons hy
 have hdq:=drop_cons hc
 refine hia (y:=I y) rfl rfl (by omega) (by simp [hy]) rfl (qp rfl (qp rfl (qp rfl (qk (kc rfl (kc rfl (kc rfl (kc rfl (kc rfl (kc rfl (kc rfl (kc rfl (kc rfl kn))))))))) (kc rfl (kc rfl (kc rfl kn))) (sqn (ereg (qp rfl (qp rfl (qp rfl (qp rfl (qp rfl (hia (y:=.agg c.cs) rfl rfl (by omega) (by simp [hc,Node.enc_eq]) rfl (hlda rfl rfl (lc rfl (lc rfl (lc rfl (lc rfl (lc rfl (ln rfl)))))) (hmu (id:=i1) (m:=ndM X) rfl rfl rfl rfl hm ?_))))))))))))))
 rw [show (AV.agg _).er=AV.agg c.cs from rfl,ndM_ins]
 refine qk (kq7 J) (kq3 J) (bqn (sqn (ereg (hadd J J (i64w (by omega)) (qp J (qk (kq7 J) (kq3 J) ?_))))))
 refine sub_la a as cs hlen hs u3 u4 i0 i1 (i + 1) (by omega) _ set_ob fun j S' h c=>hX j S' ?_ ((Ch.set (X:=fun k=>k=i1) (Ch.refl _) (fun _=>rfl) _).trans c)
 rw [hd,hdq]
 exact h
termination_by as.length - i
decreasing_by all_goals omega
theorem Subst_c (s:Sg) (a x:Node) (k:Int) (w0:Bool) (xs as:List Int) (ps cs:List Node) (hx1:xs.length ≤ 1) (ha1:as.length ≤ 1) (hxp:xs.length=ps.length) (hac:as.length=cs.length) (hM:∀ w,(if w=true then insL (fun _=>none) as cs else insL (fun _=>none) xs ps)=if w=w0 then (fun u=>if u=k then some x else none) else fun _=>none) (ha:a.sz ≤ 2 ^ 30) (hx:x.sz ≤ 2 ^ 30) (hcst:cst x.sz a ≤ 2 ^ 60):HC p N9_ [.agg a.cs,ints xs,SL 5 (ps.map Node.enc),ints as,SL 5 (cs.map Node.enc)] s (fun r s'=>∃ z q e,r=[.agg z.cs,I e] ∧ (e=0 → SubN (fun w v=>frN a w v || frN x w v) a (fun w=>if w=w0 then (fun u=>if u=k then some x else none) else fun _=>none) (fun _=>0) z q) ∧ z.sz ≤ cst x.sz a ∧ s'.Q=s.Q):=by
 refine hcf J f9_ J ?_
 simp only [chainOf]
 refine er (hbox (dq5 J) J (lq5 J) (hal (dq6 J) (qp J (qn (kq6 J) (kq2 J) (eseq (er (pq5 J (qb ?_))))))))
 rintro (_ | _) h1
 refine qp J (qg J (qp J (qg J (qp J (qg J (qp J (qg J (qp J (qg J (qp J (qb ?_)))))))))))
 rintro (_ | _) h2
 refine pq2 J (qg J (qp J (qg J (hcall J J J (distinct_c _ xs hx1) ?_))))
 rintro _ S1 ⟨rfl,kd1⟩
 refine qb ?_
 rintro (_ | _) h3
 cases h3
 refine qg J (pq3 J (qg J (qp J (qg J (hcall J J J (distinct_c _ as ha1) ?_)))))
 rintro _ S2 ⟨rfl,kd2⟩
 refine qb ?_
 rintro (_ | _) h4
 cases h4
 refine qg J (pq2 J (qn (kq7 J) (kq2 J) (ecF J (eskip (sqn (er (hcall J J J (NewMap_c _) ?_)))))))
 rintro _ S3 ⟨i0,i1,rfl,m0,m1,n0,n1,ne,l0,l1,k3⟩
 refine hal (dq8 rfl) (hstl rfl rfl rfl rfl (Nlb rfl) (lq2 rfl) (qn (kq7 rfl) (kq3 rfl) (eseq (er (pq3 rfl (qn (kq9 rfl) (kq3 rfl) (eblock (sub_lx a xs ps hxp (by omega) _ _ i0 i1 0 (Nat.zero_le _) (fun _=>none) (by rw [ndM_none];exact m0) ?_))))))))
 intro z1 S4 m4 k4
 rw [List.drop_zero,List.drop_zero] at m4
 have m5:S4.ob i1=some (.map (.int .i64) (ndM fun _=>none)):=by rw [ndM_none];exact (k4.c.ob _ l1 (Ne.symm ne)).trans m1
 refine bqx (sqn (eseq (er (pq3 J (qn (kq7 J) (kq3 J) (eblock (sub_la a as cs hac (by omega) (I 0) (I 0) i0 i1 0 (Nat.zero_le _) (fun _=>none) m5 ?_)))))))
 intro z2 S5 m7 k5
 rw [List.drop_zero,List.drop_zero] at m7
 have m6:=(k5.c.ob _ (by have:=k4.c.nx;omega) ne).trans m4
 refine bqx (sqn (eseq (ereg (hlda rfl rfl (lc rfl (lc rfl (lc rfl (lc rfl (lc rfl (ln rfl)))))) (hlda rfl rfl (lc rfl (lc rfl (ln rfl))) (hcall rfl rfl rfl (Replace_c S5 a x k w0 i0 i1 (fun w=>if w=true then insL (fun _=>none) as cs else insL (fun _=>none) xs ps) hM ha hx hcst (by rw [if_neg (by decide)];exact m6) (by rw [if_pos rfl];exact m7) (by have:=k4.c.nx;have:=k5.c.nx;omega) (by have:=k4.c.nx;have:=k5.c.nx;omega) ne) ?_))))))
 rintro _ S6 ⟨z,q,b,rfl,hz,hsz,hq6⟩
 have hqq:S6.Q=s.Q:=hq6.trans (k5.c.Q.trans (k4.c.Q.trans (k3.c.Q.trans (kd2.c.Q.trans kd1.c.Q))))
 refine pq3 J (qb ?_)
 rintro (_ | _) h5
 refine hal (dq14 J) (hstl J J J J (Nlb J) (lq5 J) (qp J (qn (kq3 J) (kq2 J) (eseq (er (pq2 J (qn (kq3 J) (kq2 J) (ecT J (er (hbuild J J (lq5 J) (hstl J J J J (Nlb J) (lq5 J) (qp J (qn (kq2 J) (kq1 J) (eret (sqr (fqr J ?_))))))))))))))))
 rotate_left
 refine hal (dq14 J) (hstl J J J J (Nlb J) (lq5 J) (qp J (qn (kq3 J) (kq2 J) (eseq (er (pq2 J (qn (kq3 J) (kq2 J) (ecF J (eskip (sqn (er (hlda J J (lq5 J) (hstl J J J J (Nlb J) (lq5 J) (qp J (qn (kq2 J) (kq1 J) (eret (fqr J ?_)))))))))))))))))
 rotate_left
 simp at h2
 omega
 simp at h1
 omega
 all_goals
  first
  | exact ⟨z0,fun _=>0,2,rfl,fun h=>absurd h (by decide),by have:=cst_eq x.sz a;simp only [z0,Node.sz,szNs,szBs];omega,hqq⟩
  | exact ⟨z,q,0,rfl,fun _=>by
     have e:=funext hM
     rw [← e]
     exact hz h5,hsz,hqq⟩
end Go.Sim.Kd
namespace Go.Sim.Kd
open Go Go.Sim
def lastT (k:Int):Int → List Int → List Int → Int
 | d,y :: ys,t :: ts=>lastT k (if y=k then t else d) ys ts
 | d,_,_=>d
theorem bindL_last (k:Int):∀ (l ts:List Int) (Y:Int → Option Int) (d:Int),(bindL Y l ts k=Y k ∧ lastT k d l ts=d) ∨ bindL Y l ts k=some (lastT k d l ts)
 | [],ts,Y,d=>.inl ⟨by cases ts <;> rfl,by cases ts <;> rfl⟩
 | y :: ys,[],Y,d=>.inl ⟨rfl,rfl⟩
 | y :: ys,t :: ts,Y,d=>by
   rw [bindL,lastT]
   rcases bindL_last k ys ts (bindT Y y t) (if y=k then t else d) with ⟨h1,h2⟩ | h
   ·rw [h1,h2]
    by_cases e:y=k
    ·subst e
     right
     simp [bindT,setT]
    left
    rw [if_neg e]
    exact ⟨by simp [bindT,setT,Ne.symm e],rfl⟩
   exact .inr h
theorem bindL_pos {c:Core}:∀ {l ts:List Int} {Y:Int → Option Int},ts.all (inR c)=true → (∀ v t,Y v=some t → 0 ≤ t) → ∀ v t,bindL Y l ts v=some t → 0 ≤ t
 | [],ts,Y,_,hY,v,t,h=>hY v t (by cases ts <;> exact h)
 | y :: ys,[],Y,_,hY,v,t,h=>hY v t h
 | y :: ys,u :: ts,Y,ha,hY,v,t,h=>by
   rw [bindL] at h
   rw [List.all_cons,Bae] at ha
   refine bindL_pos ha.2 (fun v' t' h'=>?_) v t h
   simp only [bindT,setT] at h'
   split at h'
   ·cases h'
    have:=ha.1
    simp only [inR,Bae,Dte] at this
    exact this.1
   exact hY v' t' h'
def G0 (xs as g0 g1:List Int):Bool → Int → Option Int:=fun w=>if w=true then bindL (fun _=>none) as g1 else bindL (fun _=>none) xs g0
theorem tN_pos {ds:List Decl} {fs:List CFun} {a:Node} {G:Bool → Int → Option Int} {u:Int} (hv:VN ds fs a (domG G)) (ht:TN ds fs a G=some u) (hG:∀ w v t,G w v=some t → 0 ≤ t):0 ≤ u:=by
 obtain ⟨want,xs,hh,_⟩:=VN_iff.1 hv
 have hty:a.op=2 ∨ a.op=6 ∨ a.op=3 ∨ a.op=7 ∨ a.op=4 ∨ a.op=8 → 0 ≤ a.ty:=fun h=>by
  have e0:∀ d,declAt ds a.ty=some d → 0 ≤ a.ty:=fun d hd=>by
   unfold declAt at hd
   split at hd
   ·omega
   cases hd
  unfold headOf at hh
  rw [if_neg (by omega),if_neg (by omega)] at hh
  by_cases h26:a.op=2 ∨ a.op=6
  ·rw [if_pos h26] at hh
   split at hh
   ·rename_i d hd;exact e0 d hd
   cases hh
  rw [if_neg h26] at hh
  by_cases h37:a.op=3 ∨ a.op=7
  ·rw [if_pos h37] at hh
   split at hh
   ·rename_i h1
    have:=h1.1
    simp only [typedOk,Bae,Dte] at this
    exact this.1
   cases hh
  rw [if_neg h37,if_pos (by omega)] at hh
  split at hh
  ·rename_i d hd;exact e0 d hd
  cases hh
 rw [TN,tN_eq] at ht
 have key:∀ {b:Bool} {x:Int},(if b=true then some x else none)=some u → x=u:=fun {b x} h=>by
  split at h
  ·exact Option.some.inj h
  cases h
 by_cases h0:a.op=0
 ·rw [if_pos h0] at ht;exact hG false _ _ ht
 rw [if_neg h0] at ht
 by_cases h5:a.op=5
 ·rw [if_pos h5] at ht;exact hG true _ _ ht
 rw [if_neg h5] at ht
 by_cases h1:a.op=1
 ·rw [if_pos h1] at ht;cases ht;omega
 rw [if_neg h1] at ht
 by_cases h2:a.op=2 ∨ a.op=6
 ·rw [if_pos h2] at ht;rw [← key ht];exact hty (by omega)
 rw [if_neg h2] at ht
 by_cases h3:a.op=3 ∨ a.op=7
 ·rw [if_pos h3] at ht;rw [← key ht];exact hty (by omega)
 rw [if_neg h3] at ht
 by_cases h4:a.op=4 ∨ a.op=8
 ·rw [if_pos h4] at ht;rw [← key ht];exact hty (by omega)
 rw [if_neg h4] at ht
 by_cases h9:a.op=9
 ·rw [if_pos h9] at ht;rw [← key ht];omega
 rw [if_neg h9] at ht
 by_cases h13:a.op=13
 ·rw [if_pos h13] at ht;rw [← key ht];omega
 rw [if_neg h13] at ht
 rw [← key ht];omega
theorem cst_le (K:Nat) (a:Node):cst K a ≤ (K + 2) * a.sz:=by
 induction a using Node.ind with
 | h a ih1 ih2 =>
   have e:a.sz=1 + szNs a.args + szBs a.brs:=by cases a;simp only [Node.sz,Node.args,Node.brs]
   have h1:∀ l:List Node,(∀ b ∈ l,cst K b ≤ (K + 2) * b.sz) → csts K l ≤ (K + 2) * szNs l:=fun l=>by
    induction l with
    | nil=>exact fun _=>Nat.zero_le _
    | cons b l ih =>
      intro h
      have h2:=h b (by simp)
      have h3:=ih fun c hc=>h c (by simp [hc])
      simp only [csts,szNs,Nat.mul_add]
      omega
   have h2:∀ l:List Br,(∀ b ∈ l,cst K b.body ≤ (K + 2) * b.body.sz) → cstBs K l ≤ (K + 2) * szBs l:=fun l=>by
    induction l with
    | nil=>exact fun _=>Nat.zero_le _
    | cons b l ih =>
      intro h
      have h3:=h b (by simp)
      have h4:=ih fun c hc=>h c (by simp [hc])
      have h5:b.sz=1 + b.vars.length + b.co.length + b.body.sz:=by cases b;simp only [Br.sz,Br.vars,Br.co,Br.body]
      have h6:=cstB_eq K b
      have h7:2 * b.vars.length ≤ (K + 2) * b.vars.length:=Nat.mul_le_mul_right _ (by omega)
      simp only [cstBs,szBs,Nat.mul_add,h5,Nat.mul_one]
      omega
   rw [cst_eq,e]
   have:=h1 a.args ih1
   have:=h2 a.brs ih2
   simp only [Nat.mul_add,Nat.mul_one]
   omega
theorem subst_law {c:Core} {xs as g0 g1:List Int} {nd v z:Node} {k t u:Int} {w0:Bool} {q:Bool → Int} (hc:coreOk c=true) (h1:askB c xs as g0 g1 nd=true) (h2:askB c xs as g0 g1 v=true)
 (t1:TN c.decls c.funs nd (G0 xs as g0 g1)=some t) (t2:TN c.decls c.funs v (G0 xs as g0 g1)=some u) (hs:sortOf v.op=if w0=true then 1 else 0) (hl:lastT k (-1) (if w0=true then as else xs) (if w0=true then g1 else g0)=u)
 (hz:SubN (fun w y=>frN nd w y || frN v w y) nd (fun w=>if w=w0 then (fun y=>if y=k then some v else none) else fun _=>none) (fun _=>0) z q) (hsz:nd.sz + v.sz ≤ 2 ^ 20) (hn:nNodes z ≤ 30000) (hd:nDepth z ≤ 4000):typeR c xs as g0 g1 z=[I t,I 0]:=by
 obtain ⟨s0,s1,v1,_,_⟩:=ask_iff.1 h1
 obtain ⟨_,_,v2,_,_⟩:=ask_iff.1 h2
 have s0':=s0
 have s1':=s1
 simp only [sideOk,Bae,Dte] at s0 s1
 have hG:∀ w v t,G0 xs as g0 g1 w v=some t → 0 ≤ t:=fun w v t h=>by
  unfold G0 at h
  split at h
  ·exact bindL_pos s1.2 (fun _ _ h=>(by cases h)) v t h
  exact bindL_pos s0.2 (fun _ _ h=>(by cases h)) v t h
 have d0:domG (G0 xs as g0 g1) false=setL (fun _=>false) xs:=dom_bindL xs g0 _ s0.1
 have d1:domG (G0 xs as g0 g1) true=setL (fun _=>false) as:=dom_bindL as g1 _ s1.1
 have e1:∀ b,VN c.decls c.funs b (domG (G0 xs as g0 g1)) ↔ vN c.decls c.funs b (setL (fun _=>false) xs) (setL (fun _=>false) as)=true:=fun b=>by
  rw [VN,d0,d1]
 have V1:=(e1 nd).2 v1
 have V2:=(e1 v).2 v2
 have hu:=tN_pos V2 t2 hG
 have hk:G0 xs as g0 g1 w0 k=some u:=by
  have key:∀ l ts,lastT k (-1) l ts=u → bindL (fun _=>none) l ts k=some u:=fun l ts h=>by
   rcases bindL_last k l ts (fun _=>none) (-1) with ⟨_,h2⟩ | h2
   ·omega
   rw [h2,h]
  unfold G0
  cases w0
  ·exact key xs g0 hl
  exact key as g1 hl
 obtain ⟨la,a1,a2⟩:=fr_fin nd
 obtain ⟨lx,x1,x2⟩:=fr_fin v
 have hC:Cond c.decls c.funs (fun w y=>frN nd w y || frN v w y) (frN nd) (fun w=>if w=w0 then (fun y=>if y=k then some v else none) else fun _=>none) (fun _=>0) (G0 xs as g0 g1) (G0 xs as g0 g1):=by
  have hm:∀ w y x,(if w=w0 then (fun y=>if y=k then some v else none) else fun _=>none:Int → Option Node) y=some x → w=w0 ∧ y=k ∧ x=v:=fun w y x h=>by
   split at h
   ·have h:(if y=k then some v else none)=some x:=h
    split at h
    ·cases h;exact ⟨by assumption,by assumption,rfl⟩
    cases h
   cases h
  refine ⟨fun w y x _ h=>?_,fun w y hf _=>⟨rfl,by simp [hf]⟩,fun w y x _ h w' y' hf=>.inl ?_⟩
  ·obtain ⟨rfl,rfl,rfl⟩:=hm w y x h
   exact ⟨V2,by rw [t2,hk],hs⟩
  obtain ⟨rfl,rfl,rfl⟩:=hm w y x h
  simp [hf]
 obtain ⟨r1,r2,_,_,_⟩:=sub_ok (ds:=c.decls) (fs:=c.funs) (T:=fun w y=>frN nd w y || frN v w y) (L:=fun _=>la ++ lx) (fun w y hy=>List.mem_append.2 ((Bool.or_eq_true _ _ ▸ hy:frN nd w y=true ∨ frN v w y=true).imp (a1 w y) (x1 w y))) nd _ _ 0 z q _ _ hz V1 hC (fun w=>⟨Int.le_refl _,Int.add_nonneg (Int.natCast_nonneg _) (Int.le_refl 0)⟩) fun w=>by simp only [List.length_append];omega
 have hk2:askB c xs as g0 g1 z=true:=ask_iff.2 ⟨s0',s1',(e1 z).1 r1,hn,hd⟩
 rw [typeR_ok hc hk2]
 rw [t1] at r2
 have r3:tN c.decls c.funs z (bindL (fun _=>none) xs g0) (bindL (fun _=>none) as g1)=some t:=r2
 rw [r3]
theorem typeR_two (c:Core) (xs as g0 g1:List Int) (a:Node):∃ t e,typeR c xs as g0 g1 a=[I t,I e] ∧ (e=0 → coreOk c=true ∧ askB c xs as g0 g1 a=true ∧ TN c.decls c.funs a (G0 xs as g0 g1)=some t):=by
 cases h:coreOk c with
 | false=>exact ⟨0,60,typeR_core h,fun h=>absurd h (by decide)⟩
 | true =>
   cases h2:askB c xs as g0 g1 a with
   | false=>exact ⟨0,1,typeR_ask h (by simp [h2]),fun h=>absurd h (by decide)⟩
   | true =>
     rw [typeR_ok h h2]
     have e:TN c.decls c.funs a (G0 xs as g0 g1)=tN c.decls c.funs a (bindL (fun _=>none) xs g0) (bindL (fun _=>none) as g1):=rfl
     rw [e]
     cases tN c.decls c.funs a (bindL (fun _=>none) xs g0) (bindL (fun _=>none) as g1) with
     | none=>exact ⟨0,70,rfl,fun h=>absurd h (by decide)⟩
     | some u=>exact ⟨u,0,rfl,fun _=>⟨rfl,rfl,rfl⟩⟩
end Go.Sim.Kd
namespace Go.Sim.Kd
open Go Go.Sim
theorem QOK.q {s s':Sg} (h:QOK s) (e:s'.Q=s.Q):QOK s':=by
 unfold QOK
 rw [e]
 exact h
theorem of_gt {a:Nat} {b:Int} (h:decide ((a:Int) > b)=false):(a:Int) ≤ b:=by
 have:=of_decide_eq_false h
 omega
theorem sort_con {v:Node} (h:decide (sortOf v.op + 1=2)=true):sortOf v.op=if true=true then 1 else 0:=by
 have:=Odt h
 rw [if_pos rfl]
 omega
theorem sort_pro {c:Core} {xs as g0 g1:List Int} {v:Node} (k:askB c xs as g0 g1 v=true) (h:decide (sortOf v.op + 1=3)=false) (h2:decide (sortOf v.op + 1=2)=false):sortOf v.op=if false=true then 1 else 0:=by
 have h:=of_decide_eq_false h
 have h2:=of_decide_eq_false h2
 have h3:=sortOf_of (ask_iff.1 k).2.2.1
 have h4:sortOf v.op ≤ 2:=by unfold sortOf;repeat' split <;> omega
 rw [if_neg (by decide)]
 omega
theorem of_neq {a b:Int} (h:(!decide (a=b))=false):a=b:=by simpa using h
theorem law_l (c:Core) (nd:Node) (k:Int) (l ts g0 g1:List Int) (hlen:l.length=ts.length) (hs:l.length ≤ 2 ^ 40) (u1 u2 u15 u17 u21 u22 u23 u24:AV) (i:Nat) (hi:i ≤ l.length) (d:Int) {n:Nat} {v:Nat → Bool} {D:List (Nat × List AV)} {S:Sg} {Q:Ex → Fr → Prop}
 (hX:∀ j,Q (.exit 1) ⟨uv (uv (uv (upd (upd (upd (uv (uv (uv (uv (uv (uv (uv (uv (uv (uv (uv (uv e0 96 (B false)) 95 (I j)) 94 (I (l.map I).length)) 93 (ints l)) 25 (I (lastT k d (l.drop i) (ts.drop i)))) 24 (u24)) 23 (u23)) 22 (u22)) 21 (u21)) 20 (ints ts)) 17 (u17)) 15 (u15)) 11 (some (.loc 11 0))) 10 (some (.loc 10 0))) 7 (some (.loc 7 0))) 5 (I k)) 2 (u2)) 1 (u1),upd (upd (upd ((fun _=>none)) 11 (some (nd.cs))) 10 (some ([ints g0,ints g1]))) 7 (some (Core.cs c)),n,v,D,S⟩):EX (callL p) (.loop F3_l1) ⟨uv (uv (uv (upd (upd (upd (uv (uv (uv (uv (uv (uv (uv (uv (uv (uv (uv e0 95 (I i)) 94 (I (l.map I).length)) 93 (ints l)) 25 (I d)) 24 (u24)) 23 (u23)) 22 (u22)) 21 (u21)) 20 (ints ts)) 17 (u17)) 15 (u15)) 11 (some (.loc 11 0))) 10 (some (.loc 10 0))) 7 (some (.loc 7 0))) 5 (I k)) 2 (u2)) 1 (u1),upd (upd (upd ((fun _=>none)) 11 (some (nd.cs))) 10 (some ([ints g0,ints g1]))) 7 (some (Core.cs c)),n,v,D,S⟩ Q:=by
 refine eloop (er (qp J (qb ?_)))
 rintro (_ | _) h1
 refine qn (kc J (kc J (kq16 J))) (kq3 J) (eseq (ecF J (eexit (sqx ?_))))
 have q:=hX i
 rw [List.drop_eq_nil_of_le (as:=l) (by simp at h1 ⊢;omega),List.drop_eq_nil_of_le (as:=ts) (by simp at h1 ⊢;omega)] at q
 exact q
 refine qn (kc J (kc J (kq16 J))) (kq3 J) (eseq (ecT J (eskip (sqn (eseq (eblock (er (qp J ?_))))))))
 have hlt:i < l.length:=by simpa using h1
 obtain ⟨y,hy⟩:=get_of_lt hlt
 obtain ⟨t,ht⟩:=get_of_lt (l:=ts) (i:=i) (by omega)
 have hd:=drop_cons hy
 have hdt:=drop_cons ht
 refine hia (y:=I y) rfl rfl (by omega) (by simp [hy]) rfl (qp rfl (qp rfl (qp rfl (qk (kc rfl (kc rfl (kc rfl (kc rfl (kc rfl (kc rfl (kc rfl (kc rfl (kc rfl (kc rfl (kc rfl (kc rfl (kc rfl (kc rfl (kc rfl (kc rfl (kc rfl (kc rfl (kc rfl kn))))))))))))))))))) (kc rfl (kc rfl (kc rfl kn))) (sqn (eseq (ereg (qp rfl (qp rfl (qp rfl (qb ?_)))))))))))
 rintro (_ | _) h2
 refine qn (kc J (kc J (kc J (kq16 J)))) (kq3 J) (ecF J (eskip (bqn (sqn (ereg (hadd J J (i64w (by omega)) (qp J (qk (kc J (kq16 J)) (kq3 J) ?_))))))))
 rotate_left
 refine qk (kc rfl (kc rfl (kc rfl (kc rfl (kc rfl (kc rfl (kc rfl (kc rfl (kc rfl (kc rfl (kc rfl (kc rfl (kc rfl (kc rfl (kc rfl (kc rfl (kc rfl (kc rfl (kc rfl kn))))))))))))))))))) (kc rfl (kc rfl (kc rfl kn))) (sqn (ecT rfl (ereg (qp rfl (qp rfl (hia (y:=I t) rfl rfl (by omega) (by simp [ht]) rfl (qp rfl (qp rfl (qk (kc rfl (kc rfl (kc rfl (kc rfl (kc rfl (kc rfl (kc rfl (kc rfl (kc rfl (kc rfl (kc rfl (kc rfl (kc rfl (kc rfl (kc rfl (kc rfl (kc rfl kn))))))))))))))))) (kc rfl (kc rfl (kc rfl kn))) (bqn (sqn (ereg (hadd rfl rfl (i64w (by omega)) (qp rfl (qk (kc rfl (kc rfl (kc rfl (kc rfl (kc rfl (kc rfl (kc rfl (kc rfl (kc rfl (kc rfl (kc rfl (kc rfl (kc rfl (kc rfl (kc rfl (kc rfl (kc rfl kn))))))))))))))))) (kc rfl (kc rfl (kc rfl kn))) ?_)))))))))))))))
 rotate_left
 all_goals
  first
  | (have e:y=k:=Odt h2
     refine law_l c nd k l ts g0 g1 hlen hs u1 u2 u15 u17 u21 u22 u23 u24 (i + 1) (by omega) t fun j=>?_
     have q:=hX j
     rw [hd,hdt,lastT,if_pos e] at q
     exact q)
  | (have e:¬ y=k:=of_decide_eq_false h2
     refine law_l c nd k l ts g0 g1 hlen hs u1 u2 u15 u17 u21 u22 u23 u24 (i + 1) (by omega) d fun j=>?_
     have q:=hX j
     rw [hd,hdt,lastT,if_neg e] at q
     exact q)
termination_by l.length - i
decreasing_by all_goals omega
theorem KindSubst_c (s:Sg) (hQ:QOK s) (c:Core) (xs as g0 g1:List Int) (nd:Node) (k:Int) (v:Node) (hcz:c.sz ≤ 2 ^ 40) (h1x:xs.length ≤ 2 ^ 40) (h1a:as.length ≤ 2 ^ 40) (hz:nd.sz + v.sz ≤ 2 ^ 20):HC p N3_ [.agg (Core.cs c),ints xs,ints as,.agg [ints g0,ints g1],.agg nd.cs,I k,.agg v.cs] s (fun r s'=>r=[B true]):=by
 have hc:=SzC.of hcz
 obtain ⟨t1,e1,ht1,hp1⟩:=typeR_two c xs as g0 g1 nd
 obtain ⟨t2,e2,ht2,hp2⟩:=typeR_two c xs as g0 g1 v
 have hn1:=sz_pos nd
 have hn2:=sz_pos v
 have hcst:cst v.sz nd ≤ 2 ^ 40:=Nat.le_trans (cst_le v.sz nd) (Nat.le_trans (Nat.mul_le_mul (show v.sz + 2 ≤ 2 ^ 20 + 1 by omega) (show nd.sz ≤ 2 ^ 20 - 1 by omega)) (by decide))
 refine hcf J f3_ J ?_
 simp only [chainOf]
 refine er (hbox (dq7 J) J (lq2 J) (hbox (dq8 J) J (lq2 J) (hbox (dq9 J) J (lq5 J) (hbox (dq10 J) J (lq5 J) (qp J (qn (kq7 J) (kq4 J) (eseq (er (hlda J J (lq2 J) (hcall J J J (Few_c _ c hc.z 3000 (by omega) (by omega)) ?_))))))))))
 rintro _ _ ⟨rfl,hq⟩
 obtain rfl:=hq.symm
 refine qb ?_
 rintro (_ | _) h1
 refine pq2 J (zq3 J (pq2 J (zq3 J (qp J (qn (kq8 J) (kq4 J) (ecT J (er (hcall J J J (awake_c _ hQ) ?_))))))))
 rotate_left
 refine pq2 J (qg J (hlda J J (lq5 J) (qg J (hcall J J J (Fits_c _ nd (by omega) 1000 (by omega) (by omega)) ?_))))
 rintro _ _ ⟨rfl,hq⟩
 obtain rfl:=hq.symm
 refine qb ?_
 rintro (_ | _) h2
 refine qg J (pq3 J (zq3 J (qp J (qn (kq8 J) (kq4 J) (ecT J (er (hcall J J J (awake_c _ hQ) ?_)))))))
 rotate_left
 refine qg J (pq3 J (qg J (hlda J J (lq5 J) (qg J (hcall J J J (Fits_c _ v (by omega) 1000 (by omega) (by omega)) ?_)))))
 rintro _ _ ⟨rfl,hq⟩
 obtain rfl:=hq.symm
 refine qb ?_
 rintro (_ | _) h3
 refine qg J (pq2 J (qn (kq8 J) (kq4 J) (ecT J (er (hcall J J J (awake_c _ hQ) ?_)))))
 rotate_left
 refine qg J (pq2 J (qn (kq8 J) (kq4 J) (ecF J (eskip (sqn (er (hlda J J (lq2 J) (pq2 J (hlda J J (lq2 J) (hlda J J (lq5 J) (hcall J J J (Type_c s hQ c hc.hc hc.fv hc.bz xs as g0 g1 nd h1x h1a (by omega)) ?_)))))))))))
 rintro _ S1 ⟨rfl,hx1⟩
 rw [ht1]
 have hQ1:=hQ.ext hx1
 refine pq5 J (qn (kq9 J) (kq4 J) (er (hlda J J (lq2 J) (pq2 J (hlda J J (lq2 J) (hlda J J (lq5 J) (hcall J J J (Type_c S1 hQ1 c hc.hc hc.fv hc.bz xs as g0 g1 v h1x h1a (by omega)) ?_)))))))
 rintro _ S2 ⟨rfl,hx2⟩
 rw [ht2]
 have hQ2:=hQ1.ext hx2
 refine pq5 J (qn (kq11 J) (kq4 J) (eseq (er (pq2 J (qb ?_)))))
 rintro (_ | _) h4
 refine qp J (qg J (qp J (qg J (qp J (qb ?_)))))
 rintro (_ | _) h5
 refine qp J (qn (kq10 J) (kq4 J) (ecF J (eskip (sqn (er ?_)))))
 have he1:e1=0:=of_neq ‹_›
 have he2:e2=0:=of_neq ‹_›
 obtain ⟨c1,k1,y1⟩:=hp1 he1
 obtain ⟨_,k2,y2⟩:=hp2 he2
 have s0:=(ask_iff.1 k1).1
 have s1:=(ask_iff.1 k1).2.1
 simp only [sideOk,Bae,Dte] at s0 s1
 refine qp rfl (qp rfl (qp rfl (qp rfl (hbsl (q':=[I k]) rfl rfl rfl (hlda rfl rfl (lc rfl (lc rfl (lc rfl (lc rfl (lc rfl (ln rfl)))))) (hbsl (q':=[.agg v.cs]) rfl rfl rfl (qp rfl (qp rfl (qp rfl (qp rfl (qp rfl (qp rfl (qk (kc rfl (kc rfl (kc rfl (kc rfl (kc rfl (kc rfl (kc rfl (kc rfl (kc rfl (kc rfl (kc rfl (kc rfl (kc rfl (kc rfl (kc rfl kn))))))))))))))) (kc rfl (kc rfl (kc rfl (kc rfl kn)))) (sqn (eseq (eseq (ereg (qp rfl (qp rfl (hcall rfl rfl rfl (Kind_c _ v.op) ?_))))))))))))))))))))
 rintro _ _ ⟨rfl,hq⟩
 obtain rfl:=hq.symm
 refine qn (kq16 J) (kq4 J) (eblock (er (qp J (qb ?_))))
 rintro (_ | _) h6
 refine qp J (qn (kc J (kq16 J)) (kq4 J) (ecF J (er (qp J (qb ?_)))))
 rintro (_ | _) h7
 refine qp J (qn (kq16 J) (kq4 J) (ecF J (eskip (bqn (sqn (er (qp J (qn (kq15 J) (kq3 J) (eseq (er (pq3 J (qn (kc J (kq16 J)) (kq3 J) (eblock (law_l c nd k xs g0 g0 g1 s0.1 h1x _ _ _ _ _ _ _ _ 0 (Nat.zero_le _) (-1) ?_))))))))))))))
 intro z1
 refine bqx (sqn (er (hlda J J (lq5 J) (pq4 J ?_))))
 first
 | refine hcall rfl rfl (by simp only [List.map_cons,List.map_nil,Node.enc_eq];rfl) (Subst_c S2 nd v k false [k] [] [v] [] (Nat.le_refl 1) (Nat.zero_le 1) rfl rfl (fun w=>by cases w <;> rfl) (by omega) (by omega) (by omega)) ?_
 | refine hcall rfl rfl (by simp only [List.map_cons,List.map_nil,Node.enc_eq];rfl) (Subst_c S2 nd v k true [] [k] [] [v] (Nat.zero_le 1) (Nat.le_refl 1) rfl rfl (fun w=>by cases w <;> rfl) (by omega) (by omega) (by omega)) ?_
 rintro _ S3 ⟨z,q,e3,rfl,hsub,hzz,hq3⟩
 have hQ3:=hQ2.q hq3
 refine pq3 J (hal (dc (dc (dc (dc (dc (dc (dc (dc (dc (dc (dc (dq16 J) J) J) J) J) J) J) J) J) J) J) J) (hstl J J J J (Nlb J) (lq5 J) (qp J (qn (kq9 J) (kq3 J) (eseq (er (pq2 J (qb ?_))))))))
 rintro (_ | _) h8
 refine qp J (qg J (qp J (qg J (qp J (qg J (qp J (qb ?_)))))))
 rintro (_ | _) h9
 refine qp J (qn (kq7 J) (kq3 J) (ecF J (eskip (sqn (eseq (er (hlda J J (lq5 J) (hcall J J J (Size_c z (by omega) _) ?_))))))))
 rintro _ _ ⟨rfl,hq⟩
 obtain rfl:=hq.symm
 refine pq5 J (qn (kq8 J) (kq3 J) (er (pq2 J (qb ?_))))
 rintro (_ | _) h10
 refine qp J (qg J (qp J (qg J (qp J (qb ?_)))))
 rintro (_ | _) h11
 refine qp J (qn (kq7 J) (kq3 J) (ecF J (eskip (sqn (er (hlda J J (lq2 J) (pq2 J (hlda J J (lq2 J) (hlda J J (lq5 J) (hcall J J J (Type_c S3 hQ3 c hc.hc hc.fv hc.bz xs as g0 g1 z h1x h1a (by omega)) ?_))))))))))
 rintro _ S4 ⟨rfl,hx4⟩
 have he3:e3=0:=of_neq ‹_›
 have ez:typeR c xs as g0 g1 z=[I t1,I 0]:=by
  first
  | exact subst_law (w0:=true) c1 k1 k2 y1 y2 (sort_con ‹_›) (of_neq ‹_›) (hsub he3) hz (Int.ofNat_le.1 (of_gt ‹_›)) (Int.ofNat_le.1 (of_gt ‹_›))
  | exact subst_law (w0:=false) c1 k1 k2 y1 y2 (sort_pro k2 ‹_› ‹_›) (of_neq ‹_›) (hsub he3) hz (Int.ofNat_le.1 (of_gt ‹_›)) (Int.ofNat_le.1 (of_gt ‹_›))
 rw [ez]
 refine pq5 J (qn (kq3 J) kn (er (pq2 J (qb ?_))))
 rintro (_ | _) h12
 simp at h12
 refine qp J (qg J (qp J (qg J (qp J (qg J (qp J (qb ?_)))))))
 rintro (_ | _) h13
 simp at h13
 refine pq2 J (qg J (hcall J J J (awake_c _ (hQ3.ext hx4)) ?_))
 rintro _ S9 ⟨rfl,hx9⟩
 refine pq2 J (qn (kq1 J) kn (eret (fqr J ?_)))
 first
 | rfl
 | skip
 refine qp J (qn (kq7 J) (kq3 J) (ecT J (er (hcall J J J (awake_c _ hQ3) ?_))))
 rotate_left
 refine qp J (zq2 J (qp J (qn (kq7 J) (kq3 J) (ecT J (er (hcall J J J (awake_c _ hQ3) ?_))))))
 rotate_left
 refine qp J (qn (kq7 J) (kq3 J) (ecT J (er (hcall J J J (awake_c _ hQ3) ?_))))
 rotate_left
 refine qp J (zq3 J (qp J (qn (kq7 J) (kq3 J) (ecT J (er (hcall J J J (awake_c _ hQ3) ?_))))))
 rotate_left
 refine qp rfl (qk (kc rfl (kc rfl (kc rfl (kc rfl (kc rfl (kc rfl (kc rfl (kc rfl (kc rfl (kc rfl (kc rfl (kc rfl (kc rfl (kc rfl (kc rfl (kc rfl kn)))))))))))))))) (kc rfl (kc rfl (kc rfl (kc rfl kn)))) (sqn (ecT rfl (ereg (qp rfl (qp rfl (qp rfl (qp rfl (hbsl (q':=[I k]) rfl rfl rfl (hlda rfl rfl (lc rfl (lc rfl (lc rfl (lc rfl (lc rfl (ln rfl)))))) (hbsl (q':=[.agg v.cs]) rfl rfl rfl (qp rfl (qp rfl (qp rfl (qp rfl (qp rfl (qp rfl (qk (kc rfl (kc rfl (kc rfl (kc rfl (kc rfl (kc rfl (kc rfl (kc rfl (kc rfl (kc rfl (kc rfl (kc rfl (kc rfl (kc rfl kn)))))))))))))) (kc rfl (kc rfl (kc rfl kn))) (bqn (sqn (eseq (ereg (qp rfl ?_)))))))))))))))))))))))
 refine qn (kq15 J) (kq3 J) (eseq (er (pq3 J (qn (kc J (kq16 J)) (kq3 J) (eblock (law_l c nd k as g1 g0 g1 s1.1 h1a _ _ _ _ _ _ _ _ 0 (Nat.zero_le _) (-1) ?_))))))
 intro z1
 refine bqx (sqn (er (hlda J J (lq5 J) (pq4 J ?_))))
 first
 | refine hcall rfl rfl (by simp only [List.map_cons,List.map_nil,Node.enc_eq];rfl) (Subst_c S2 nd v k false [k] [] [v] [] (Nat.le_refl 1) (Nat.zero_le 1) rfl rfl (fun w=>by cases w <;> rfl) (by omega) (by omega) (by omega)) ?_
 | refine hcall rfl rfl (by simp only [List.map_cons,List.map_nil,Node.enc_eq];rfl) (Subst_c S2 nd v k true [] [k] [] [v] (Nat.zero_le 1) (Nat.le_refl 1) rfl rfl (fun w=>by cases w <;> rfl) (by omega) (by omega) (by omega)) ?_
 rintro _ S3 ⟨z,q,e3,rfl,hsub,hzz,hq3⟩
 have hQ3:=hQ2.q hq3
 refine pq3 J (hal (dc (dc (dc (dc (dc (dc (dc (dc (dc (dc (dc (dq16 J) J) J) J) J) J) J) J) J) J) J) J) (hstl J J J J (Nlb J) (lq5 J) (qp J (qn (kq9 J) (kq3 J) (eseq (er (pq2 J (qb ?_))))))))
 rintro (_ | _) h14
 refine qp J (qg J (qp J (qg J (qp J (qg J (qp J (qb ?_)))))))
 rintro (_ | _) h15
 refine qp J (qn (kq7 J) (kq3 J) (ecF J (eskip (sqn (eseq (er (hlda J J (lq5 J) (hcall J J J (Size_c z (by omega) _) ?_))))))))
 rintro _ _ ⟨rfl,hq⟩
 obtain rfl:=hq.symm
 refine pq5 J (qn (kq8 J) (kq3 J) (er (pq2 J (qb ?_))))
 rintro (_ | _) h16
 refine qp J (qg J (qp J (qg J (qp J (qb ?_)))))
 rintro (_ | _) h17
 refine qp J (qn (kq7 J) (kq3 J) (ecF J (eskip (sqn (er (hlda J J (lq2 J) (pq2 J (hlda J J (lq2 J) (hlda J J (lq5 J) (hcall J J J (Type_c S3 hQ3 c hc.hc hc.fv hc.bz xs as g0 g1 z h1x h1a (by omega)) ?_))))))))))
 rintro _ S4 ⟨rfl,hx4⟩
 have he3:e3=0:=of_neq ‹_›
 have ez:typeR c xs as g0 g1 z=[I t1,I 0]:=by
  first
  | exact subst_law (w0:=true) c1 k1 k2 y1 y2 (sort_con ‹_›) (of_neq ‹_›) (hsub he3) hz (Int.ofNat_le.1 (of_gt ‹_›)) (Int.ofNat_le.1 (of_gt ‹_›))
  | exact subst_law (w0:=false) c1 k1 k2 y1 y2 (sort_pro k2 ‹_› ‹_›) (of_neq ‹_›) (hsub he3) hz (Int.ofNat_le.1 (of_gt ‹_›)) (Int.ofNat_le.1 (of_gt ‹_›))
 rw [ez]
 refine pq5 J (qn (kq3 J) kn (er (pq2 J (qb ?_))))
 rintro (_ | _) h18
 simp at h18
 refine qp J (qg J (qp J (qg J (qp J (qg J (qp J (qb ?_)))))))
 rintro (_ | _) h19
 simp at h19
 refine pq2 J (qg J (hcall J J J (awake_c _ (hQ3.ext hx4)) ?_))
 rintro _ S9 ⟨rfl,hx9⟩
 refine pq2 J (qn (kq1 J) kn (eret (fqr J ?_)))
 first
 | rfl
 | skip
 refine qp J (qn (kq7 J) (kq3 J) (ecT J (er (hcall J J J (awake_c _ hQ3) ?_))))
 rotate_left
 refine qp J (zq2 J (qp J (qn (kq7 J) (kq3 J) (ecT J (er (hcall J J J (awake_c _ hQ3) ?_))))))
 rotate_left
 refine qp J (qn (kq7 J) (kq3 J) (ecT J (er (hcall J J J (awake_c _ hQ3) ?_))))
 rotate_left
 refine qp J (zq3 J (qp J (qn (kq7 J) (kq3 J) (ecT J (er (hcall J J J (awake_c _ hQ3) ?_))))))
 rotate_left
 refine qp J (qn (kc J (kq16 J)) (kq4 J) (ecT J (er (hcall J J J (awake_c _ hQ2) ?_))))
 rintro _ S9 ⟨rfl,hx9⟩
 refine qp J (qn (kq1 J) kn (eret (bqr (sqr (fqr J ?_)))))
 first
 | rfl
 | skip
 refine qp J (qn (kq10 J) (kq4 J) (ecT J (er (hcall J J J (awake_c _ hQ2) ?_))))
 rotate_left
 refine qp J (zq2 J (qp J (qn (kq10 J) (kq4 J) (ecT J (er (hcall J J J (awake_c _ hQ2) ?_))))))
 rotate_left
 all_goals
  rintro _ S9 ⟨rfl,hx9⟩
  refine qp J (qn (kq1 J) kn (eret (sqr (fqr J ?_))))
  first
  | rfl
  | skip
end Go.Sim.Kd
