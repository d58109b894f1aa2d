import Derived.Test.YtclanmkmbjinaaaGreatDoorW10
set_option linter.unusedSimpArgs false
set_option linter.unusedVariables false
set_option linter.unnecessarySimpa false
set_option maxRecDepth 10000
namespace Go.Nac.L4
attribute [local congr] b1_congr b2_congr Wp_congr wpOps_congr thenK_congr blockK_congr gK_congr cK_congr
section
variable {X:XRel}
def CutX (X:XRel):Prop:=∀ (l:List UInt8) (M:List Blk),l.length ≤ 1000000 → X 142 [.s (.string ⟨l.toArray⟩),.s (.string ⟨#[10]⟩)] M (.tup [.s (.string ⟨(Lib.cut l [10]).1.toArray⟩),.s (.string ⟨(Lib.cut l [10]).2.1.toArray⟩),.B (Lib.cut l [10]).2.2]) M
def SplitX (X:XRel):Prop:=∀ (l:List UInt8) (M:List Blk),l.length ≤ 1000000 → X 162 [.s (.string ⟨l.toArray⟩),.s (.string ⟨#[32]⟩)] M (.fs ((spl 32 l).map encW)) M
def AtoiX (X:XRel):Prop:=∀ (l:List UInt8) (M:List Blk),l.length ≤ 1000000 → X 177 [.s (.string ⟨l.toArray⟩)] M (atoiV ⟨l.toArray⟩) M
def TrimX (X:XRel):Prop:=∀ (l:List UInt8) (M:List Blk),X 178 [.s (.string ⟨l.toArray⟩),.s (.string ⟨#[45]⟩)] M (.s (.string ⟨(Lib.trimPrefix l [45]).toArray⟩)) M
def tkR (t:List (List UInt8) × Bool):Blk:=.row true 2 0 [.agg [.fs (t.1.map encW),.B t.2]]
theorem tkR_eq (ws:List (List UInt8)) (w:Bool):tkR (ws,w) = .row true 2 0 [.agg [.fs (ws.map encW),.B w]]:=rfl
theorem lowR {M0 E:List Blk} {b b':Blk} (hM:lowM (M0 ++ b :: E).length (M0 ++ b :: E)) (h:b'.low (M0 ++ b :: E).length):lowM (M0 ++ b' :: E).length (M0 ++ b' :: E):=by
  intro x hx
  have e:(M0 ++ b' :: E).length = (M0 ++ b :: E).length:=by simp
  rw [e]
  rcases List.mem_append.1 hx with hx|hx
  · exact hM x (by simp [hx])
  · rcases List.mem_cons.1 hx with rfl|hx
    · exact h
    · exact hM x (by simp [hx])
theorem tkR_low (t:List (List UInt8) × Bool) (n:Nat):(tkR t).low n:=by
  show lowL n [_]
  simp [lowL,PV.low,encW_low]
theorem word_run (t:List (List UInt8) × Bool) (hl:t.1.length ≤ 1000000) {M0 E:List Blk} :
    ACall F X (.fn 163) [.op M0.length 0 0 0] (M0 ++ tkR t :: E) (.s (.string ⟨(wordS t).1.toArray⟩)) (M0 ++ tkR (wordS t).2 :: E):=by
  obtain ⟨ws,w⟩:=t
  simp only at hl
  refine ACall_fn (cf:=c163) rfl rfl fun hM hA => ?_
  simp only [c163,zO,zF,zT]
  rw [mk1 _ (by decide)]
  have hlow:=fun t => lowR hM (tkR_low t _)
  cases ws with
  | nil =>
    have e:wordS ([],w) = ([],([],true)):=rfl
    have hl2:=hlow ([],true)
    rw [e]
    simp only [tkR_eq,List.map_nil] at hl2 ⊢
    simp -implicitDefEqProofs (disch:=first|omega|(simp only [go_sem,seval];first|done|omega)) only [go_sem,seval]
    refine post_fin0 ret_ok hl2 (by simp) ?_ ?_
    · simp -implicitDefEqProofs (disch:=first|omega|(simp only [go_sem,seval];first|done|omega)) only [go_sem,seval]
    · (simp only [go_sem,seval] <;> first|done|omega)
  | cons x r =>
    by_cases hx:x = []
    · subst hx
      have e:wordS ([] :: r,w) = ([],([] :: r,true)):=rfl
      have hl2:=hlow ([] :: r,true)
      rw [e]
      simp only [tkR_eq,List.map_cons,encW_eq] at hl2 ⊢
      have f0:(((r.length + 1:Nat):Int) = 0) = False:=eq_false (by omega)
      have be:bin .eql (.s (.string ⟨([]:List UInt8).toArray⟩)) (.s (.string ⟨#[]⟩)) = some (.B true):=by rw [bin_strEq];rfl
      simp -implicitDefEqProofs (disch:=first|omega|(simp only [go_sem,seval,f0,be];first|done|omega)) only [go_sem,seval,f0,be]
      refine post_fin0 ret_ok hl2 (by simp) ?_ ?_
      · simp -implicitDefEqProofs (disch:=first|omega|(simp only [go_sem,seval];first|done|omega)) only [go_sem,seval]
      · (simp only [go_sem,seval] <;> first|done|omega)
    · rw [wordS_cons hx]
      have hl2:=hlow (r,w)
      simp only [tkR_eq,List.map_cons,encW_eq] at hl2 ⊢
      have f0:(((r.length + 1:Nat):Int) = 0) = False:=eq_false (by omega)
      have be:bin .eql (.s (.string ⟨x.toArray⟩)) (.s (.string ⟨#[]⟩)) = some (.B false):=by
        rw [bin_strEq]
        have:((⟨x.toArray⟩:ByteArray) = ⟨([]:List UInt8).toArray⟩) = False:=by rw [bs_eq];exact eq_false hx
        show some (PV.B (decide ((⟨x.toArray⟩:ByteArray) = ⟨([]:List UInt8).toArray⟩))) = _
        simp [this]
      have hsz:=encW_sized (x :: r)
      simp only [List.map_cons,encW_eq] at hsz
      have htk:(r.map encW).take r.length = r.map encW:=List.take_of_length_le (by simp)
      simp -implicitDefEqProofs (disch:=first|omega|(simp only [go_sem,seval,f0,be,hsz,htk];first|done|omega)) only [go_sem,seval,f0,be,hsz,htk]
      refine post_fin0 ret_ok hl2 (by simp) ?_ ?_
      · simp -implicitDefEqProofs (disch:=first|omega|(simp only [go_sem,seval];first|done|omega)) only [go_sem,seval]
      · (simp only [go_sem,seval] <;> first|done|omega)
theorem wordS_len (t:List (List UInt8) × Bool):(wordS t).2.1.length ≤ t.1.length:=by
  obtain ⟨ws,w⟩:=t
  cases ws with
  | nil => simp [wordS]
  | cons x r => unfold wordS;simp only;split <;> simp
theorem wordS_in {t:List (List UInt8) × Bool} {n:Nat} (h:∀ x ∈ t.1,x.length ≤ n):(wordS t).1.length ≤ n ∧ ∀ x ∈ (wordS t).2.1,x.length ≤ n:=by
  obtain ⟨ws,w⟩:=t
  cases ws with
  | nil => simp [wordS]
  | cons x r =>
    unfold wordS
    simp only
    split
    · exact ⟨Nat.zero_le _,h⟩
    · exact ⟨h x (by simp),fun y hy => h y (by simp [hy])⟩
theorem int_run (hI:ItoaX X) (hA0:AtoiX X) (hT:TrimX X) (t:List (List UInt8) × Bool) (hl:t.1.length ≤ 1000000) (hw:∀ x ∈ t.1,x.length ≤ 1000000) {M0 E:List Blk} :
    ACall F X (.fn 164) [.op M0.length 0 0 0] (M0 ++ tkR t :: E) (.I (intS t).1) (M0 ++ tkR (intS t).2 :: E):=by
  refine ACall_fn (cf:=c164) rfl rfl fun hM hA => ?_
  simp only [c164,zO,zF,zT]
  rw [mk1 _ (by decide)]
  have hlow:=fun t => lowR hM (tkR_low t _)
  have e:intS t = (atoiI (wordS t).1,((wordS t).2.1,if okW (wordS t).1 = true then (wordS t).2.2 else true)):=rfl
  have hwl:=(wordS_in hw).1
  have hwr:=word_run (X:=X) t hl (M0:=M0) (E:=E)
  rw [e]
  clear e
  simp -implicitDefEqProofs (disch:=first|omega|(simp only [go_sem,seval];first|done|omega)) only [go_sem,seval]
  refine callP_l hwr ?_
  generalize (wordS t).1 = v at hwl ⊢
  obtain ⟨ws,w⟩:=(wordS t).2
  simp only
  have a1:=hA0 v
  unfold atoiV at a1
  have hT2:=hT v
  have z0:=bs_size (Lib.trimPrefix v [45])
  simp -implicitDefEqProofs (disch:=first|omega|(simp only [go_sem,seval];first|done|omega)) only [go_sem,seval]
  have hd:(⟨v.toArray⟩:ByteArray).data.toList = v:=by simp
  rw [hd] at a1
  cases ha:Lib.atoiAll v
  · rename_i n
    obtain ⟨i1,i2⟩:=atoi_in ha
    rw [ha] at a1
    have hv:atoiI v = n:=by unfold atoiI;rw [ha]
    have hk0:okW v = (decide (Lib.itoa n = v) && decide ((Lib.trimPrefix v [45]).length ≤ 9)):=by unfold okW;rw [ha]
    simp only at a1
    rw [hv]
    refine callP_q (ACall_ext (a1 _ hwl)) ?_
    simp -implicitDefEqProofs (disch:=first|omega|(simp only [go_sem,seval];first|done|omega)) only [go_sem,seval]
    refine callP_q (ACall_ext (hI n _ i1 i2)) ?_
    by_cases c1:Lib.itoa n = v
    · have f1:bin .neq (.s (.string (itoaB n))) (.s (.string ⟨v.toArray⟩)) = some (.B false):=by
        rw [bin_strNe]
        have:(itoaB n = ⟨v.toArray⟩) = True:=by unfold itoaB;rw [bs_eq];exact eq_true c1
        simp [this]
      simp -implicitDefEqProofs (disch:=first|omega|(simp only [go_sem,seval,f1];first|done|omega)) only [go_sem,seval,f1]
      refine callP_q (ACall_ext (hT2 _)) ?_
      by_cases c2:(Lib.trimPrefix v [45]).length ≤ 9
      · have f2:((9:Int) < (Lib.trimPrefix v [45]).length) = False:=eq_false (by omega)
        have hl2:=hlow (ws,w)
        rw [decide_eq_true c1,decide_eq_true c2,Bool.and_self] at hk0
        simp only [hk0,tkR_eq,if_true] at hl2 ⊢
        simp -implicitDefEqProofs (disch:=first|omega|(simp only [go_sem,seval,z0,f2];first|done|omega)) only [go_sem,seval,z0,f2]
        refine post_fin0 ret_ok hl2 (by simp) ?_ ?_
        · simp -implicitDefEqProofs (disch:=first|omega|(simp only [go_sem,seval];first|done|omega)) only [go_sem,seval]
        · (simp only [go_sem,seval] <;> first|done|omega)
      · have f2:((9:Int) < (Lib.trimPrefix v [45]).length) = True:=eq_true (by omega)
        have hl2:=hlow (ws,true)
        rw [decide_eq_true c1,decide_eq_false c2,Bool.and_false] at hk0
        simp only [hk0,tkR_eq,Bool.false_eq_true,if_false] at hl2 ⊢
        simp -implicitDefEqProofs (disch:=first|omega|(simp only [go_sem,seval,z0,f2];first|done|omega)) only [go_sem,seval,z0,f2]
        refine post_fin0 ret_ok hl2 (by simp) ?_ ?_
        · simp -implicitDefEqProofs (disch:=first|omega|(simp only [go_sem,seval];first|done|omega)) only [go_sem,seval]
        · (simp only [go_sem,seval] <;> first|done|omega)
    · have f1:bin .neq (.s (.string (itoaB n))) (.s (.string ⟨v.toArray⟩)) = some (.B true):=by
        rw [bin_strNe]
        have:(itoaB n = ⟨v.toArray⟩) = False:=by unfold itoaB;rw [bs_eq];exact eq_false c1
        simp [this]
      have hl2:=hlow (ws,true)
      rw [decide_eq_false c1,Bool.false_and] at hk0
      simp only [hk0,tkR_eq,Bool.false_eq_true,if_false] at hl2 ⊢
      simp -implicitDefEqProofs (disch:=first|omega|(simp only [go_sem,seval,f1];first|done|omega)) only [go_sem,seval,f1]
      refine post_fin0 ret_ok hl2 (by simp) ?_ ?_
      · simp -implicitDefEqProofs (disch:=first|omega|(simp only [go_sem,seval];first|done|omega)) only [go_sem,seval]
      · (simp only [go_sem,seval] <;> first|done|omega)
  all_goals
    have hl2:=hlow (ws,true)
    rw [ha] at a1
    have hk0:okW v = false:=by unfold okW;rw [ha]
    unfold atoiI
    simp only [ha,hk0,tkR_eq,Bool.false_eq_true,if_false] at a1 hl2 ⊢
    refine callP_q (ACall_ext (a1 _ hwl)) ?_
    simp -implicitDefEqProofs (disch:=first|omega|(simp only [go_sem,seval];first|done|omega)) only [go_sem,seval]
    refine post_fin0 ret_ok hl2 (by simp) ?_ ?_
    · simp -implicitDefEqProofs (disch:=first|omega|(simp only [go_sem,seval];first|done|omega)) only [go_sem,seval]
    · (simp only [go_sem,seval] <;> first|done|omega)
def outA (i:Nat) (s:Ste):Blk:=.row true 3 0 [.agg [.s (.string s.name),.I s.least,.os (i + 1) s.tbs.length 0 s.tbs.length]]
def outT (s:Ste):Blk:=.row true 3 s.tbs.length (s.tbs.map encTb)
theorem outA_eq (i:Nat) (nm:ByteArray) (le:Int) (tb:List Tb):outA i ⟨nm,le,tb⟩ = .row true 3 0 [.agg [.s (.string nm),.I le,.os (i + 1) tb.length 0 tb.length]]:=rfl
theorem outT_eq (nm:ByteArray) (le:Int) (tb:List Tb):outT ⟨nm,le,tb⟩ = .row true 3 tb.length (tb.map encTb):=rfl
theorem word2 (t:List (List UInt8) × Bool) (hl:t.1.length ≤ 1000000) {M E:List Blk} {a b:Blk} :
    ACall F X (.fn 163) [.op (M.length + 2) 0 0 0] (M ++ a :: b :: tkR t :: E) (.s (.string ⟨(wordS t).1.toArray⟩)) (M ++ a :: b :: tkR (wordS t).2 :: E):=by
  have:=word_run (X:=X) t hl (M0:=M ++ [a,b]) (E:=E)
  simpa using this
theorem int2 (hI:ItoaX X) (hA0:AtoiX X) (hT:TrimX X) (t:List (List UInt8) × Bool) (hl:t.1.length ≤ 1000000) (hw:∀ x ∈ t.1,x.length ≤ 1000000) {M E:List Blk} {a b:Blk} :
    ACall F X (.fn 164) [.op (M.length + 2) 0 0 0] (M ++ a :: b :: tkR t :: E) (.I (intS t).1) (M ++ a :: b :: tkR (intS t).2 :: E):=by
  have:=int_run (X:=X) hI hA0 hT t hl hw (M0:=M ++ [a,b]) (E:=E)
  simpa using this
theorem spl_in (c:UInt8):∀ (l:List UInt8),(spl c l).length ≤ l.length + 1 ∧ ∀ x ∈ spl c l,x.length ≤ l.length
  | [] => by simp [spl]
  | y :: r => by
    obtain ⟨h1,h2⟩:=spl_in c r
    unfold spl
    split
    · refine ⟨by simp;omega,fun x hx => ?_⟩
      rcases List.mem_cons.1 hx with rfl|hx
      · simp
      · have:=h2 x hx;simp;omega
    · cases hs:spl c r with
      | nil => exact absurd hs (spl_ne c r)
      | cons h t =>
        rw [hs] at h1 h2
        refine ⟨by simp at h1 ⊢;omega,fun x hx => ?_⟩
        rcases List.mem_cons.1 hx with rfl|hx
        · have:=h2 h (by simp);simp;omega
        · have:=h2 x (by simp [hx]);simp;omega
theorem take_run (hS:SplitX X) (hI:ItoaX X) (hA0:AtoiX X) (hT:TrimX X) (k:Nat) (hk:k ≤ 1000000) (s:Ste) (l:List UInt8) (hl:l.length ≤ 900000) (hn:s.tbs.length ≤ 1000000) {M0:List Blk} :
    ACall F X (.fn 143) [.op M0.length 0 0 0,.s (.string ⟨l.toArray⟩),.I k] (M0 ++ [outA M0.length s,outT s]) (.B (takeS k s l).1) (M0 ++ [outA M0.length (takeS k s l).2,outT (takeS k s l).2]):=by
  obtain ⟨w1,w2⟩:=spl_in 32 l
  have e:takeS k s l = if k = 0 then (decide ((wordS (spl 32 l,false)).1 = siteW) && !(intS (wordS (wordS (spl 32 l,false)).2).2).2.2 && decide ((intS (wordS (wordS (spl 32 l,false)).2).2).2.1 = []),{ s with name:=bs (wordS (wordS (spl 32 l,false)).2).1,least:=(intS (wordS (wordS (spl 32 l,false)).2).2).1 })
    else (decide ((wordS (spl 32 l,false)).1 = turbW) && !(intS (intS (wordS (wordS (spl 32 l,false)).2).2).2).2.2 && decide ((intS (intS (wordS (wordS (spl 32 l,false)).2).2).2).2.1 = []),{ s with tbs:=s.tbs ++ [⟨bs (wordS (wordS (spl 32 l,false)).2).1,(intS (wordS (wordS (spl 32 l,false)).2).2).1,(intS (intS (wordS (wordS (spl 32 l,false)).2).2).2).1⟩] }):=rfl
  rw [e]
  clear e
  have hsp:=fun M => hS l M (by omega)
  generalize spl 32 l = ws at w1 w2 hsp ⊢
  have r1:=fun (M E:List Blk) (a b:Blk) => @word2 X (ws,false) (by simp only;omega) M E a b
  have p1:=wordS_len (ws,false)
  have p2:=(wordS_in (t:=(ws,false)) (n:=1000000) (fun x hx => by have:=w2 x hx;omega)).2
  have p3:=(wordS_in (t:=(ws,false)) (n:=1000000) (fun x hx => by have:=w2 x hx;omega)).1
  simp only at p1
  generalize wordS (ws,false) = T1 at r1 p1 p2 p3 ⊢
  have r2:=fun (M E:List Blk) (a b:Blk) => @word2 X T1.2 (by omega) M E a b
  have p4:=wordS_len T1.2
  have p5:=(wordS_in (t:=T1.2) p2).2
  generalize wordS T1.2 = T2 at r2 p4 p5 ⊢
  have r3:=fun (M E:List Blk) (a b:Blk) => @int2 X hI hA0 hT T2.2 (by omega) p5 M E a b
  have p6:(intS T2.2).2.1.length ≤ T2.2.1.length:=wordS_len T2.2
  have p7:∀ x ∈ (intS T2.2).2.1,x.length ≤ 1000000:=(wordS_in (t:=T2.2) p5).2
  generalize intS T2.2 = T3 at r3 p6 p7 ⊢
  have r4:=fun (M E:List Blk) (a b:Blk) => @int2 X hI hA0 hT T3.2 (by omega) p7 M E a b
  generalize intS T3.2 = T4 at r4 ⊢
  obtain ⟨nm,le,tb⟩:=s
  simp only at hn ⊢
  refine ACall_fn (cf:=c143) rfl rfl fun hM hA => ?_
  simp only [c143,zO,zF,zT]
  rw [mk3 _ (by decide)]
  have hM0:lowM (M0.length + 2) M0:=by
    intro x hx
    have:=hM x (by simp [hx])
    simpa using this
  have hlow:∀ s:Ste,lowM (M0 ++ [outA M0.length s,outT s]).length (M0 ++ [outA M0.length s,outT s]):=by
    intro s x hx
    have e:(M0 ++ [outA M0.length s,outT s]).length = M0.length + 2:=by simp
    rw [e]
    rcases List.mem_append.1 hx with hx|hx
    · exact hM0 x hx
    · rcases List.mem_cons.1 hx with rfl|hx
      · show lowL _ [_]
        simp [lowL,PV.low]
      · rw [List.mem_singleton] at hx
        subst hx
        exact of_eq_true (encTb_low _)
  clear hM
  have k1:∀ z:List UInt8,bin .eql (.s (.string ⟨z.toArray⟩)) (.s (.string ⟨#[115,105,116,101]⟩)) = some (.B (decide (z = siteW))):=by
    intro z
    rw [bin_strEq]
    have:=@bs_eq z siteW
    show some (PV.B (decide ((⟨z.toArray⟩:ByteArray) = ⟨siteW.toArray⟩))) = _
    simp only [this]
  have k2:∀ z:List UInt8,bin .eql (.s (.string ⟨z.toArray⟩)) (.s (.string ⟨#[116,117,114,98,105,110,101]⟩)) = some (.B (decide (z = turbW))):=by
    intro z
    rw [bin_strEq]
    have:=@bs_eq z turbW
    show some (PV.B (decide ((⟨z.toArray⟩:ByteArray) = ⟨turbW.toArray⟩))) = _
    simp only [this]
  simp -implicitDefEqProofs (disch:=first|omega|(simp only [go_sem,seval];first|done|omega)) only [go_sem,seval]
  refine callP_q (ACall_ext (hsp _)) ?_
  simp -implicitDefEqProofs (disch:=first|omega|(simp only [go_sem,seval,tkR_eq];first|done|omega)) only [go_sem,seval,tkR_eq]
  refine callP_l (r1 M0 [] _ _) ?_
  by_cases hk0:k = 0
  · have f0:((k:Int) = 0) = True:=eq_true (by omega)
    rw [if_pos hk0]
    simp -implicitDefEqProofs (disch:=first|omega|(simp only [go_sem,seval,f0];first|done|omega)) only [go_sem,seval,f0]
    refine callP_l (r2 M0 [] _ _) ?_
    simp -implicitDefEqProofs (disch:=first|omega|(simp only [go_sem,seval,outA_eq,outT_eq];first|done|omega)) only [go_sem,seval,outA_eq,outT_eq]
    refine callP_l (r3 M0 [] _ _) ?_
    obtain ⟨v3,ws3,w3⟩:=T3
    simp only
    have hl2:=hlow ⟨bs T2.1,v3,tb⟩
    have e2:∀ a b c:Blk,M0 ++ [a,b,c] = (M0 ++ [a,b]) ++ [c]:=fun a b c => by simp
    have hk1:=k1 T1.1
    by_cases hs:T1.1 = siteW
    · rw [decide_eq_true hs] at hk1 ⊢
      cases w3
      · by_cases hw:ws3 = []
        · subst hw
          simp -implicitDefEqProofs (disch:=first|omega|(simp only [go_sem,seval,hk1,tkR_eq];first|done|omega)) only [go_sem,seval,hk1,tkR_eq]
          rw [e2]
          refine post_fin ret_ok hl2 (by simp) ?_ ?_
          · simp -implicitDefEqProofs (disch:=first|omega|(simp only [go_sem,seval];first|done|omega)) only [go_sem,seval]
          · (simp only [go_sem,seval] <;> first|done|omega)
        · have fw:((ws3.length:Int) = 0) = False:=eq_false (fun h => hw (List.eq_nil_of_length_eq_zero (by omega)))
          simp -implicitDefEqProofs (disch:=first|omega|(simp only [go_sem,seval,hk1,tkR_eq,fw];first|done|omega)) only [go_sem,seval,hk1,tkR_eq,fw]
          rw [e2]
          refine post_fin ret_ok hl2 (by simp) ?_ ?_
          · simp -implicitDefEqProofs (disch:=first|omega|(simp only [go_sem,seval,hw];first|done|omega)) only [go_sem,seval,hw]
          · (simp only [go_sem,seval] <;> first|done|omega)
      · simp -implicitDefEqProofs (disch:=first|omega|(simp only [go_sem,seval,hk1,tkR_eq];first|done|omega)) only [go_sem,seval,hk1,tkR_eq]
        rw [e2]
        refine post_fin ret_ok hl2 (by simp) ?_ ?_
        · simp -implicitDefEqProofs (disch:=first|omega|(simp only [go_sem,seval];first|done|omega)) only [go_sem,seval]
        · (simp only [go_sem,seval] <;> first|done|omega)
    · rw [decide_eq_false hs] at hk1 ⊢
      simp -implicitDefEqProofs (disch:=first|omega|(simp only [go_sem,seval,hk1,tkR_eq];first|done|omega)) only [go_sem,seval,hk1,tkR_eq]
      rw [e2]
      refine post_fin ret_ok hl2 (by simp) ?_ ?_
      · simp -implicitDefEqProofs (disch:=first|omega|(simp only [go_sem,seval];first|done|omega)) only [go_sem,seval]
      · (simp only [go_sem,seval] <;> first|done|omega)
  · have f0:((k:Int) = 0) = False:=eq_false (by omega)
    rw [if_neg hk0]
    simp -implicitDefEqProofs (disch:=first|omega|(simp only [go_sem,seval,f0];first|done|omega)) only [go_sem,seval,f0]
    refine callP_l (r2 M0 [] _ _) ?_
    simp -implicitDefEqProofs (disch:=first|omega|(simp only [go_sem,seval];first|done|omega)) only [go_sem,seval]
    refine callP_l (r3 M0 [_] _ _) ?_
    simp -implicitDefEqProofs (disch:=first|omega|(simp only [go_sem,seval];first|done|omega)) only [go_sem,seval]
    refine callP_l (r4 M0 [_] _ _) ?_
    obtain ⟨v3,t3⟩:=T3
    obtain ⟨v4,ws4,w4⟩:=T4
    have htb:(tb ++ [(⟨bs T2.1,v3,v4⟩:Tb)]).map encTb = tb.map encTb ++ [.agg [.s (.string (bs T2.1)),.I v3,.I v4]]:=by simp [encTb_eq]
    have htl:(tb ++ [(⟨bs T2.1,v3,v4⟩:Tb)]).length = tb.length + 1:=by simp
    simp only
    have hl2:=hlow ⟨nm,le,tb ++ [⟨bs T2.1,v3,v4⟩]⟩
    have e2:∀ a b c d:Blk,M0 ++ [a,b,c,d] = (M0 ++ [a,b]) ++ [c,d]:=fun a b c d => by simp
    have hk1:=k2 T1.1
    simp only [outA_eq,outT_eq,htl,htb] at hl2 ⊢
    clear htb htl hlow
    by_cases hs:T1.1 = turbW
    · rw [decide_eq_true hs] at hk1 ⊢
      cases w4
      · by_cases hw:ws4 = []
        · subst hw
          simp -implicitDefEqProofs (disch:=first|omega|(simp only [go_sem,seval,hk1,tkR_eq,outA_eq,outT_eq];first|done|omega)) only [go_sem,seval,hk1,tkR_eq,outA_eq,outT_eq]
          rw [e2]
          refine post_fin ret_ok hl2 (by simp) ?_ ?_
          · simp -implicitDefEqProofs (disch:=first|omega|(simp only [go_sem,seval];first|done|omega)) only [go_sem,seval]
          · (simp only [go_sem,seval] <;> first|done|omega)
        · have fw:((ws4.length:Int) = 0) = False:=eq_false (fun h => hw (List.eq_nil_of_length_eq_zero (by omega)))
          simp -implicitDefEqProofs (disch:=first|omega|(simp only [go_sem,seval,hk1,tkR_eq,outA_eq,outT_eq,fw];first|done|omega)) only [go_sem,seval,hk1,tkR_eq,outA_eq,outT_eq,fw]
          rw [e2]
          refine post_fin ret_ok hl2 (by simp) ?_ ?_
          · simp -implicitDefEqProofs (disch:=first|omega|(simp only [go_sem,seval,hw];first|done|omega)) only [go_sem,seval,hw]
          · (simp only [go_sem,seval] <;> first|done|omega)
      · simp -implicitDefEqProofs (disch:=first|omega|(simp only [go_sem,seval,hk1,tkR_eq,outA_eq,outT_eq];first|done|omega)) only [go_sem,seval,hk1,tkR_eq,outA_eq,outT_eq]
        rw [e2]
        refine post_fin ret_ok hl2 (by simp) ?_ ?_
        · simp -implicitDefEqProofs (disch:=first|omega|(simp only [go_sem,seval];first|done|omega)) only [go_sem,seval]
        · (simp only [go_sem,seval] <;> first|done|omega)
    · rw [decide_eq_false hs] at hk1 ⊢
      simp -implicitDefEqProofs (disch:=first|omega|(simp only [go_sem,seval,hk1,tkR_eq,outA_eq,outT_eq];first|done|omega)) only [go_sem,seval,hk1,tkR_eq,outA_eq,outT_eq]
      rw [e2]
      refine post_fin ret_ok hl2 (by simp) ?_ ?_
      · simp -implicitDefEqProofs (disch:=first|omega|(simp only [go_sem,seval];first|done|omega)) only [go_sem,seval]
      · (simp only [go_sem,seval] <;> first|done|omega)
theorem take2 (hS:SplitX X) (hI:ItoaX X) (hA0:AtoiX X) (hT:TrimX X) (k:Nat) (hk:k ≤ 1000000) (s:Ste) (l:List UInt8) (hl:l.length ≤ 900000) (hn:s.tbs.length ≤ 1000000) {M:List Blk} {a:Blk} :
    ACall F X (.fn 143) [.op (M.length + 1) 0 0 0,.s (.string ⟨l.toArray⟩),.I k] (M ++ [a,outA (M.length + 1) s,outT s]) (.B (takeS k s l).1) (M ++ [a,outA (M.length + 1) (takeS k s l).2,outT (takeS k s l).2]):=by
  have:=take_run (X:=X) hS hI hA0 hT k hk s l hl hn (M0:=M ++ [a])
  simpa using this
theorem bin_bs0 {l:List UInt8} (h:l ≠ []):bin .eql (.s (.string ⟨l.toArray⟩)) (.s (.string ⟨#[]⟩)) = some (.B false) ∧ bin .neq (.s (.string ⟨l.toArray⟩)) (.s (.string ⟨#[]⟩)) = some (.B true):=by
  have:((⟨l.toArray⟩:ByteArray) = ⟨([]:List UInt8).toArray⟩) = False:=by rw [bs_eq];exact eq_false h
  rw [bin_strEq,bin_strNe]
  refine ⟨?_,?_⟩
  · show some (PV.B (decide ((⟨l.toArray⟩:ByteArray) = ⟨([]:List UInt8).toArray⟩))) = _
    simp [this]
  · show some (PV.B (decide ¬((⟨l.toArray⟩:ByteArray) = ⟨([]:List UInt8).toArray⟩))) = _
    simp [this]
theorem q_site_Parse (hC:CutX X) (hS:SplitX X) (hI:ItoaX X) (hA0:AtoiX X) (hT:TrimX X) (t:List UInt8) (hl:t.length ≤ 100000):Q X 93 [.s (.string ⟨t.toArray⟩)] (.tup [encSte (parS t),.I (parN t),.I (parE t)]):=by
  intro M
  have hz:=bs_size t
  have f1:((1000000:Int) < t.length) = False:=eq_false (by omega)
  by_cases h0:t = []
  · subst h0
    have e:encSte (parS []) = .agg [.s (.string ⟨#[]⟩),.I 0,.fs []]:=rfl
    have be:bin .eql (.s (.string ⟨([]:List UInt8).toArray⟩)) (.s (.string ⟨#[]⟩)) = some (.B true):=by rw [bin_strEq];rfl
    have e1:parN [] = 0:=rfl
    have e2:parE [] = 26:=rfl
    rw [e,e1,e2]
    (refine ACall_fn (cf:=L4.c93) rfl rfl fun hM hA => ?_;simp only [L4.c93,zO,zF,zT];rw [mk1 _ (by decide)];simp -implicitDefEqProofs (disch:=first|omega|(simp only [go_sem,seval,hz,f1,be];first|done|omega)) only [go_sem,seval,hz,f1,be])
    (all_goals (first|refine post_fin ret_ok hM rfl ?_ ?_|refine post_fin0 ret_ok hM rfl ?_ ?_|refine post_fin normal_ok hM rfl ?_ ?_|refine post_fin0 normal_ok hM rfl ?_ ?_);all_goals first|(simp only [go_sem,seval] <;> first|done|omega)|skip;all_goals (try simp -implicitDefEqProofs (disch:=first|omega|(simp only [go_sem,seval];first|done|omega)) only [go_sem,seval]))
  have hb0:=(bin_bs0 h0).1
  have hE:parE t = endE (parL 0 ste0 (spl 10 t)):=by unfold parE;rw [if_neg (by omega),if_neg h0]
  have hN:parN t = endN (parL 0 ste0 (spl 10 t)):=by unfold parN;rw [if_neg (by omega),if_neg h0]
  have hP:parS t = endS (parL 0 ste0 (spl 10 t)):=by unfold parS;rw [if_neg (by omega),if_neg h0]
  have hz0:encSte ste0 = .agg [.s (.string ⟨#[]⟩),.I 0,.fs []]:=rfl
  rw [hE,hN,hP]
  clear hE hN hP
  (refine ACall_fn (cf:=L4.c93) rfl rfl fun hM hA => ?_;simp only [L4.c93,zO,zF,zT];rw [mk1 _ (by decide)];simp -implicitDefEqProofs (disch:=first|omega|(simp only [go_sem,seval,hz,f1,hb0,ownR_agg];first|done|omega)) only [go_sem,seval,hz,f1,hb0,ownR_agg])
  refine loop_mk (α:=List UInt8 × Nat × Ste) (t,0,ste0) (fun a => parL 0 ste0 (spl 10 t) = parL a.2.1 a.2.2 (spl 10 a.1) ∧ a.2.1 + a.1.length ≤ t.length ∧ a.2.2.tbs.length ≤ a.2.1)
    (fun a => M ++ [.row true 3 0 [.agg [.s (.string ⟨#[]⟩),.I 0,.s (.slice none 0 0)]],outA (M.length + 1) a.2.2,outT a.2.2])
    (fun a => [(0,.s (.string ⟨a.1.toArray⟩)),(2,.op M.length 0 0 0),(5,.op (M.length + 1) 0 0 0),(6,.I a.2.1)]) (fun a => a.1.length) ⟨rfl,by simp,Nat.le_refl _⟩ rfl rfl ?_
  rintro ⟨rest,k,s⟩ ⟨i1,i2,i3⟩
  simp only at i1 i2 i3
  rw [i1]
  have hlo:∀ (m:Nat) (s:Ste),lowM (m + 3) [outA (m + 1) s,outT s]:=by
    intro m s x hx
    rcases List.mem_cons.1 hx with rfl|hx
    · show lowL _ [_]
      simp [lowL,PV.low]
    · rw [List.mem_singleton] at hx
      subst hx
      exact of_eq_true (encTb_low _)
  by_cases hr:rest = []
  · subst hr
    have be:bin .neq (.s (.string ⟨([]:List UInt8).toArray⟩)) (.s (.string ⟨#[]⟩)) = some (.B false):=by rw [bin_strNe];simp
    have e:parL k s (spl 10 []) = (some s,k):=by simp [spl,parL]
    rw [e,show endE (some s,k) = chkSte s from rfl,show endN (some s,k) = if chkSte s = 0 then 0 else k from rfl,show endS (some s,k) = if chkSte s = 0 then s else ste0 from rfl]
    have hC2:=q_site_CheckSite (X:=X) s (by omega)
    obtain ⟨nm,le,tb⟩:=s
    rw [encSte_eq] at hC2
    simp only at hC2 i3
    simp -implicitDefEqProofs (disch:=first|omega|(simp only [go_sem,seval,be,outA_eq,outT_eq,r_fzload,frzC_s,frzC_os,frzC_nil];first|done|omega)) only [go_sem,seval,be,outA_eq,outT_eq,r_fzload,frzC_s,frzC_os,frzC_nil]
    refine callP_q (hC2 _) ?_
    have tT:(tb.map encTb).take tb.length = tb.map encTb:=List.take_of_length_le (by simp)
    have lT:∀ n,lowL n (tb.map encTb) = True:=fun n => encTb_low _
    generalize chkSte ⟨nm,le,tb⟩ = ee
    by_cases hz:ee = 0
    · subst hz
      rw [if_pos rfl,if_pos rfl,encSte_eq]
      simp -implicitDefEqProofs (disch:=first|omega|(simp only [go_sem,seval];first|done|omega)) only [go_sem,seval]
      (first|refine post_fin ret_ok hM rfl ?_ ?_|refine post_fin0 ret_ok hM rfl ?_ ?_|refine post_fin normal_ok hM rfl ?_ ?_|refine post_fin0 normal_ok hM rfl ?_ ?_)
      · simp -implicitDefEqProofs (disch:=first|omega|(simp only [go_sem,seval,tT];first|done|omega)) only [go_sem,seval,tT]
      · (simp only [go_sem,seval,lT] <;> first|done|omega)
    · rw [if_neg hz,if_neg hz,hz0]
      simp -implicitDefEqProofs (disch:=first|omega|(simp only [go_sem,seval,hz];first|done|omega)) only [go_sem,seval,hz]
      (all_goals (first|refine post_fin ret_ok hM rfl ?_ ?_|refine post_fin0 ret_ok hM rfl ?_ ?_|refine post_fin normal_ok hM rfl ?_ ?_|refine post_fin0 normal_ok hM rfl ?_ ?_);all_goals first|(simp only [go_sem,seval] <;> first|done|omega)|skip;all_goals (try simp -implicitDefEqProofs (disch:=first|omega|(simp only [go_sem,seval];first|done|omega)) only [go_sem,seval]))
  have hb1:=(bin_bs0 hr).2
  have hcut:=hC rest
  by_cases hnl:(10:UInt8) ∈ rest
  case neg =>
    have e:parL k s (spl 10 rest) = (none,k):=by rw [spl_miss hnl];simp [parL,hr]
    rw [e,show endE (none,k) = 26 from rfl,show endN (none,k) = k from rfl,show endS (none,k) = ste0 from rfl,hz0]
    rw [cut_miss hnl] at hcut
    simp -implicitDefEqProofs (disch:=first|omega|(simp only [go_sem,seval,hb1];first|done|omega)) only [go_sem,seval,hb1]
    refine callP_q (ACall_ext (hcut _ (by omega))) ?_
    simp -implicitDefEqProofs (disch:=first|omega|(simp only [go_sem,seval];first|done|omega)) only [go_sem,seval]
    (all_goals (first|refine post_fin ret_ok hM rfl ?_ ?_|refine post_fin0 ret_ok hM rfl ?_ ?_|refine post_fin normal_ok hM rfl ?_ ?_|refine post_fin0 normal_ok hM rfl ?_ ?_);all_goals first|(simp only [go_sem,seval] <;> first|done|omega)|skip;all_goals (try simp -implicitDefEqProofs (disch:=first|omega|(simp only [go_sem,seval];first|done|omega)) only [go_sem,seval]))
  obtain ⟨w,r,hw,rfl⟩:=spl_first hnl
  rw [cut_hit hw] at hcut
  rw [spl_hit hw] at i1 ⊢
  simp only [List.length_append,List.length_cons] at i2
  obtain ⟨t1,t2⟩:=take_line k s w
  have htk:=@take2 X hS hI hA0 hT k (by omega) s w (by omega) (by omega)
  have hlen:(takeS k s w).2.tbs.length ≤ k + 1:=by
    unfold takeS
    simp only
    split
    · show s.tbs.length ≤ k + 1;omega
    · simp;omega
  simp -implicitDefEqProofs (disch:=first|omega|(simp only [go_sem,seval,hb1];first|done|omega)) only [go_sem,seval,hb1]
  refine callP_q (ACall_ext (hcut _ (by simp;omega))) ?_
  simp -implicitDefEqProofs (disch:=first|omega|(simp only [go_sem,seval];first|done|omega)) only [go_sem,seval]
  refine callP_l htk ?_
  cases hL:lineS k s w with
  | none =>
    rw [hL] at t1
    simp only [Option.isSome_none] at t1
    rw [t1]
    have e:=parL_none hL (spl_ne 10 r)
    rw [e,show endE (none,k) = 26 from rfl,show endN (none,k) = k from rfl,show endS (none,k) = ste0 from rfl,hz0]
    simp -implicitDefEqProofs (disch:=first|omega|(simp only [go_sem,seval];first|done|omega)) only [go_sem,seval]
    (all_goals (first|refine post_fin ret_ok hM rfl ?_ ?_|refine post_fin0 ret_ok hM rfl ?_ ?_|refine post_fin normal_ok hM rfl ?_ ?_|refine post_fin0 normal_ok hM rfl ?_ ?_);all_goals first|(simp only [go_sem,seval] <;> first|done|omega)|skip;all_goals (try simp -implicitDefEqProofs (disch:=first|omega|(simp only [go_sem,seval];first|done|omega)) only [go_sem,seval]))
  | some s' =>
    rw [hL] at t1
    simp only [Option.isSome_some] at t1
    have t3:=t2 s' hL
    rw [t1,t3]
    rw [t3] at hlen
    simp -implicitDefEqProofs (disch:=first|omega|(simp only [go_sem,seval];first|done|omega)) only [go_sem,seval]
    have hlM:=hlo M.length s'
    refine Wp_cut_at hM rfl 3 (by simp) (by first|done|(simp only [go_sem,seval,hlM] <;> first|done|(refine ⟨?_,?_⟩ <;> omega)|omega)) (lowL_mk (by first|done|(simp only [go_sem,seval,hlM] <;> first|done|(refine ⟨?_,?_⟩ <;> omega)|omega))) ?_
    simp -implicitDefEqProofs (disch:=first|omega|(simp only [go_sem,seval];first|done|omega)) only [go_sem,seval]
    exact again' (r,k + 1,s') ⟨parL_some hL (spl_ne 10 r),by simp only;omega,by simp only;omega⟩ (by simp;omega) rfl rfl
theorem hdrL_len {ws:List (List UInt8)} (h:ws.length ≠ 3):hdrL ws = none:=by
  unfold hdrL
  split
  · exact absurd rfl h
  · rfl
theorem tbL2_len {ws:List (List UInt8)} (h:ws.length ≠ 4):tbL2 ws = none:=by
  unfold tbL2
  split
  · exact absurd rfl h
  · rfl
theorem neqW {z v:List UInt8}:bin .neq (.s (.string ⟨z.toArray⟩)) (.s (.string ⟨v.toArray⟩)) = some (.B (decide (¬ z = v))):=by
  rw [bin_strNe]
  simp only [bs_eq]
theorem eqlW {z v:List UInt8}:bin .eql (.s (.string ⟨z.toArray⟩)) (.s (.string ⟨v.toArray⟩)) = some (.B (decide (z = v))):=by
  rw [bin_strEq]
  simp only [bs_eq]
theorem q_ref01_Parse (t:List UInt8) (hl:t.length ≤ 100000):Q X 95 [.s (.string ⟨t.toArray⟩)] (.tup [encSte (parS t),.I (parN t),.I (parE t)]):=by
  intro M
  have hz:=bs_size t
  have f1:((1000000:Int) < t.length) = False:=eq_false (by omega)
  have hS10:Q X 96 [.s (.string ⟨t.toArray⟩),.s (.int .u8 10)] (.fs ((spl 10 t).map encW)):=q_ref01_Split (X:=X) 10 t (by omega)
  by_cases h0:t = []
  · have e:encSte (parS t) = .agg [.s (.string ⟨#[]⟩),.I 0,.fs []]:=by rw [h0];rfl
    have e1:parN t = 0:=by rw [h0];rfl
    have e2:parE t = 26:=by rw [h0];rfl
    have f0:((t.length:Int) = 0) = True:=eq_true (by rw [h0];rfl)
    rw [e,e1,e2]
    (refine ACall_fn (cf:=L4.c95) rfl rfl fun hM hA => ?_;simp only [L4.c95,zO,zF,zT];rw [mk1 _ (by decide)];simp -implicitDefEqProofs (disch:=first|omega|(simp only [go_sem,seval,hz,f1,ownR_agg];first|done|omega)) only [go_sem,seval,hz,f1,ownR_agg])
    refine callP_q (hS10 _) ?_
    simp -implicitDefEqProofs (disch:=first|omega|(simp only [go_sem,seval,hz,f0];first|done|omega)) only [go_sem,seval,hz,f0]
    (all_goals (first|refine post_fin ret_ok hM rfl ?_ ?_|refine post_fin0 ret_ok hM rfl ?_ ?_|refine post_fin normal_ok hM rfl ?_ ?_|refine post_fin0 normal_ok hM rfl ?_ ?_);all_goals first|(simp only [go_sem,seval] <;> first|done|omega)|skip;all_goals (try simp -implicitDefEqProofs (disch:=first|omega|(simp only [go_sem,seval];first|done|omega)) only [go_sem,seval]))
  have f0:((t.length:Int) = 0) = False:=eq_false (fun h => h0 (List.eq_nil_of_length_eq_zero (by omega)))
  have hE:parE t = endE (parL 0 ste0 (spl 10 t)):=by unfold parE;rw [if_neg (by omega),if_neg h0]
  have hN:parN t = endN (parL 0 ste0 (spl 10 t)):=by unfold parN;rw [if_neg (by omega),if_neg h0]
  have hP:parS t = endS (parL 0 ste0 (spl 10 t)):=by unfold parS;rw [if_neg (by omega),if_neg h0]
  have hz0:encSte ste0 = .agg [.s (.string ⟨#[]⟩),.I 0,.fs []]:=rfl
  rw [hE,hN,hP]
  clear hE hN hP
  have hLn:=spl_ne 10 t
  obtain ⟨hLl,hLx⟩:=spl_in 10 t
  (refine ACall_fn (cf:=L4.c95) rfl rfl fun hM hA => ?_;simp only [L4.c95,zO,zF,zT];rw [mk1 _ (by decide)];simp -implicitDefEqProofs (disch:=first|omega|(simp only [go_sem,seval,hz,f1,ownR_agg];first|done|omega)) only [go_sem,seval,hz,f1,ownR_agg])
  refine callP_q (hS10 _) ?_
  generalize spl 10 t = L at hLn hLl hLx ⊢
  have hL1:1 ≤ L.length:=List.length_pos_iff.2 hLn
  simp -implicitDefEqProofs (disch:=first|omega|(simp only [go_sem,seval,hz,f0];first|done|omega)) only [go_sem,seval,hz,f0]
  refine loop_mk (α:=Nat × Ste) (0,ste0) (fun a => (a.1 < L.length ∧ parL 0 ste0 L = parL a.1 a.2 (L.drop a.1) ∧ a.2.tbs.length ≤ a.1) ∨ (a.1 = L.length ∧ parL 0 ste0 L = (some a.2,L.length - 1) ∧ a.2.tbs.length ≤ a.1))
    (fun a => M ++ [.row true 3 0 [.agg [.s (.string ⟨#[]⟩),.I 0,.s (.slice none 0 0)]],outA (M.length + 1) a.2,outT a.2])
    (fun a => [(2,.op M.length 0 0 0),(5,.op (M.length + 1) 0 0 0),(6,.fs (L.map encW)),(7,.I a.1)]) (fun a => L.length - a.1) (.inl ⟨hL1,rfl,Nat.le_refl _⟩) rfl rfl ?_
  rintro ⟨i,s⟩ hinv
  simp only at hinv
  rcases hinv with ⟨h1,h2,h3⟩|⟨h1,h2,h3⟩
  case inr =>
    have fi:((i:Int) < L.length) = False:=eq_false (by omega)
    rw [h2,show endE (some s,L.length - 1) = chkSte s from rfl,show endN (some s,L.length - 1) = if chkSte s = 0 then 0 else L.length - 1 from rfl,show endS (some s,L.length - 1) = if chkSte s = 0 then s else ste0 from rfl]
    have hC2:=q_ref01_CheckSite (X:=X) s (by omega)
    obtain ⟨nm,le,tb⟩:=s
    rw [encSte_eq] at hC2
    simp only at hC2 h3
    simp -implicitDefEqProofs (disch:=first|omega|(simp only [go_sem,seval,fi,outA_eq,outT_eq,r_fzload,frzC_s,frzC_os,frzC_nil];first|done|omega)) only [go_sem,seval,fi,outA_eq,outT_eq,r_fzload,frzC_s,frzC_os,frzC_nil]
    refine callP_q (hC2 _) ?_
    have tT:(tb.map encTb).take tb.length = tb.map encTb:=List.take_of_length_le (by simp)
    have lT:∀ n,lowL n (tb.map encTb) = True:=fun n => encTb_low _
    have fL:((L.length - 1:Nat):Int) = (L.length:Int) - 1:=by omega
    generalize chkSte ⟨nm,le,tb⟩ = ee
    by_cases hz:ee = 0
    · subst hz
      rw [if_pos rfl,if_pos rfl,encSte_eq]
      simp -implicitDefEqProofs (disch:=first|omega|(simp only [go_sem,seval];first|done|omega)) only [go_sem,seval]
      (first|refine post_fin ret_ok hM rfl ?_ ?_|refine post_fin0 ret_ok hM rfl ?_ ?_|refine post_fin normal_ok hM rfl ?_ ?_|refine post_fin0 normal_ok hM rfl ?_ ?_)
      · simp -implicitDefEqProofs (disch:=first|omega|(simp only [go_sem,seval,tT];first|done|omega)) only [go_sem,seval,tT]
      · (simp only [go_sem,seval,lT] <;> first|done|omega)
    · rw [if_neg hz,if_neg hz,hz0,fL]
      simp -implicitDefEqProofs (disch:=first|omega|(simp only [go_sem,seval,hz];first|done|omega)) only [go_sem,seval,hz]
      (all_goals (first|refine post_fin ret_ok hM rfl ?_ ?_|refine post_fin0 ret_ok hM rfl ?_ ?_|refine post_fin normal_ok hM rfl ?_ ?_|refine post_fin0 normal_ok hM rfl ?_ ?_);all_goals first|(simp only [go_sem,seval] <;> first|done|omega)|skip;all_goals (try simp -implicitDefEqProofs (disch:=first|omega|(simp only [go_sem,seval];first|done|omega)) only [go_sem,seval]))
  rw [h2]
  have fi:((i:Int) < L.length) = True:=eq_true (by omega)
  obtain ⟨w,hw⟩:∃ w,L[i]? = some w:=⟨_,List.getElem?_eq_getElem h1⟩
  have hwl:=hLx w (List.mem_of_getElem? hw)
  have hdr:L.drop i = w :: L.drop (i + 1):=by
    obtain ⟨g1,g2⟩:=List.getElem?_eq_some_iff.1 hw
    rw [List.drop_eq_getElem_cons g1,g2]
  rw [hdr]
  by_cases hlast:i + 1 = L.length
  · have fl:((i:Int) = (L.length:Int) - 1) = True:=eq_true (by omega)
    have hd0:L.drop (i + 1) = []:=List.drop_of_length_le (by omega)
    rw [hd0]
    by_cases hw0:w = []
    · have e:parL i s [w] = (some s,i):=by simp [parL,hw0]
      have hne:bin .neq (.s (.string ⟨w.toArray⟩)) (.s (.string ⟨#[]⟩)) = some (.B false):=by rw [hw0,bin_strNe];simp
      rw [e]
      simp -implicitDefEqProofs (disch:=first|omega|(simp only [go_sem,seval,fi,fl,hw,encW_cells,encW_eq,hne];first|done|omega)) only [go_sem,seval,fi,fl,hw,encW_cells,encW_eq,hne]
      refine again' (i + 1,s) (.inr ⟨hlast,?_,by simp only;omega⟩) (by simp only;omega) rfl rfl
      rw [← hlast];rfl
    · have e:parL i s [w] = (none,i):=by simp [parL,hw0]
      have hne:=(bin_bs0 hw0).2
      rw [e,show endE (none,i) = 26 from rfl,show endN (none,i) = i from rfl,show endS (none,i) = ste0 from rfl,hz0]
      simp -implicitDefEqProofs (disch:=first|omega|(simp only [go_sem,seval,fi,fl,hw,encW_cells,encW_eq,hne];first|done|omega)) only [go_sem,seval,fi,fl,hw,encW_cells,encW_eq,hne]
      (all_goals (first|refine post_fin ret_ok hM rfl ?_ ?_|refine post_fin0 ret_ok hM rfl ?_ ?_|refine post_fin normal_ok hM rfl ?_ ?_|refine post_fin0 normal_ok hM rfl ?_ ?_);all_goals first|(simp only [go_sem,seval] <;> first|done|omega)|skip;all_goals (try simp -implicitDefEqProofs (disch:=first|omega|(simp only [go_sem,seval];first|done|omega)) only [go_sem,seval]))
  have fl:((i:Int) = (L.length:Int) - 1) = False:=eq_false (by omega)
  have hrn:L.drop (i + 1) ≠ []:=fun h => by have:=List.length_drop (l:=L) (i:=i + 1);rw [h] at this;simp at this;omega
  have hS32:Q X 96 [.s (.string ⟨w.toArray⟩),.s (.int .u8 32)] (.fs ((spl 32 w).map encW)):=q_ref01_Split (X:=X) 32 w (by omega)
  simp -implicitDefEqProofs (disch:=first|omega|(simp only [go_sem,seval,fi,fl,hw,encW_cells,encW_eq];first|done|omega)) only [go_sem,seval,fi,fl,hw,encW_cells,encW_eq]
  refine callP_q (hS32 _) ?_
  have hbad:lineS i s w = none → endE (parL i s (w :: L.drop (i + 1))) = 26 ∧ endN (parL i s (w :: L.drop (i + 1))) = i ∧ encSte (endS (parL i s (w :: L.drop (i + 1)))) = .agg [.s (.string ⟨#[]⟩),.I 0,.fs []]:=by
    intro h
    rw [parL_none h hrn]
    exact ⟨rfl,rfl,rfl⟩
  obtain ⟨hwl2,hwx⟩:=spl_in 32 w
  have hls:lineS i s w = if i = 0 then (hdrL (spl 32 w)).map fun p => { s with name:=p.1,least:=p.2 } else (tbL2 (spl 32 w)).map fun t => { s with tbs:=s.tbs ++ [t] }:=rfl
  generalize spl 32 w = ws at hwl2 hwx hls ⊢
  by_cases hi0:i = 0
  · have f0:((i:Int) = 0) = True:=eq_true (by omega)
    rw [if_pos hi0] at hls
    by_cases h3w:ws.length = 3
    case neg =>
      have hb:=hbad (by rw [hls,hdrL_len h3w];rfl)
      have fw:((ws.length:Int) = 3) = False:=eq_false (by omega)
      rw [hb.1,hb.2.1,hb.2.2]
      have hi':(i:Int) = 0:=by omega
      simp -implicitDefEqProofs (disch:=first|omega|(simp only [go_sem,seval,f0,fw];first|done|omega)) only [go_sem,seval,f0,fw]
      (all_goals (first|refine post_fin ret_ok hM rfl ?_ ?_|refine post_fin0 ret_ok hM rfl ?_ ?_|refine post_fin normal_ok hM rfl ?_ ?_|refine post_fin0 normal_ok hM rfl ?_ ?_);all_goals first|(simp only [go_sem,seval] <;> first|done|omega)|skip;all_goals (try simp -implicitDefEqProofs (disch:=first|omega|(simp only [go_sem,seval,hi'];first|done|omega)) only [go_sem,seval,hi']))
    match ws,h3w with
    | [a,b,c],_ =>
    have hla:=hwx a (by simp)
    have hlb:=hwx b (by simp)
    have hlc:=hwx c (by simp)
    have ka:bin .neq (.s (.string ⟨a.toArray⟩)) (.s (.string ⟨#[115,105,116,101]⟩)) = some (.B (decide (¬ a = siteW))):=neqW
    have kb:bin .eql (.s (.string ⟨b.toArray⟩)) (.s (.string ⟨#[]⟩)) = some (.B (decide (b = []))):=eqlW
    have hNc:=q_ref01_Number (X:=X) c (by omega)
    have hi':(i:Int) = 0:=by omega
    have hh:hdrL [a,b,c] = if a = siteW ∧ b ≠ [] ∧ (numR c).2 = true then some (bs b,(numR c).1) else none:=rfl
    rw [hh] at hls
    by_cases ha:a = siteW
    case neg =>
      have hb:=hbad (by rw [hls,if_neg (fun h => ha h.1)];rfl)
      rw [decide_eq_true ha] at ka
      rw [hb.1,hb.2.1,hb.2.2,hi']
      simp -implicitDefEqProofs (disch:=first|omega|(simp only [go_sem,seval,f0,encW_cells,encW_eq,ka];first|done|omega)) only [go_sem,seval,f0,encW_cells,encW_eq,ka]
      (all_goals (first|refine post_fin ret_ok hM rfl ?_ ?_|refine post_fin0 ret_ok hM rfl ?_ ?_|refine post_fin normal_ok hM rfl ?_ ?_|refine post_fin0 normal_ok hM rfl ?_ ?_);all_goals first|(simp only [go_sem,seval] <;> first|done|omega)|skip;all_goals (try simp -implicitDefEqProofs (disch:=first|omega|(simp only [go_sem,seval];first|done|omega)) only [go_sem,seval]))
    rw [decide_eq_false (fun h => h ha)] at ka
    by_cases hb0:b = []
    · have hb:=hbad (by rw [hls,if_neg (fun h => h.2.1 hb0)];rfl)
      rw [decide_eq_true hb0] at kb
      rw [hb.1,hb.2.1,hb.2.2,hi']
      simp -implicitDefEqProofs (disch:=first|omega|(simp only [go_sem,seval,f0,encW_cells,encW_eq,ka,kb];first|done|omega)) only [go_sem,seval,f0,encW_cells,encW_eq,ka,kb]
      (all_goals (first|refine post_fin ret_ok hM rfl ?_ ?_|refine post_fin0 ret_ok hM rfl ?_ ?_|refine post_fin normal_ok hM rfl ?_ ?_|refine post_fin0 normal_ok hM rfl ?_ ?_);all_goals first|(simp only [go_sem,seval] <;> first|done|omega)|skip;all_goals (try simp -implicitDefEqProofs (disch:=first|omega|(simp only [go_sem,seval];first|done|omega)) only [go_sem,seval]))
    rw [decide_eq_false hb0] at kb
    simp -implicitDefEqProofs (disch:=first|omega|(simp only [go_sem,seval,f0,encW_cells,encW_eq,ka,kb];first|done|omega)) only [go_sem,seval,f0,encW_cells,encW_eq,ka,kb]
    refine callP_q (hNc _) ?_
    cases hn2:(numR c).2 with
    | false =>
      have hb:=hbad (by rw [hls,if_neg (fun h => by rw [hn2] at h;cases h.2.2)];rfl)
      rw [hb.1,hb.2.1,hb.2.2,hi']
      simp -implicitDefEqProofs (disch:=first|omega|(simp only [go_sem,seval];first|done|omega)) only [go_sem,seval]
      (all_goals (first|refine post_fin ret_ok hM rfl ?_ ?_|refine post_fin0 ret_ok hM rfl ?_ ?_|refine post_fin normal_ok hM rfl ?_ ?_|refine post_fin0 normal_ok hM rfl ?_ ?_);all_goals first|(simp only [go_sem,seval] <;> first|done|omega)|skip;all_goals (try simp -implicitDefEqProofs (disch:=first|omega|(simp only [go_sem,seval];first|done|omega)) only [go_sem,seval]))
    | true =>
      rw [if_pos ⟨ha,hb0,hn2⟩] at hls
      generalize (numR c).1 = v at hls ⊢
      obtain ⟨nm,le,tb⟩:=s
      have hps:=parL_some (r:=L.drop (i + 1)) hls hrn
      simp only [Option.map_some] at hps h3
      rw [hps]
      simp -implicitDefEqProofs (disch:=first|omega|(simp only [go_sem,seval,encW_cells,encW_eq,outA_eq,outT_eq];first|done|omega)) only [go_sem,seval,encW_cells,encW_eq,outA_eq,outT_eq]
      refine again' (i + 1,⟨bs b,v,tb⟩) (.inl ⟨by simp only;omega,rfl,by simp only;omega⟩) (by simp only;omega) rfl rfl
  · have f0:((i:Int) = 0) = False:=eq_false (by omega)
    rw [if_neg hi0] at hls
    by_cases h3w:ws.length = 4
    case neg =>
      have hb:=hbad (by rw [hls,tbL2_len h3w];rfl)
      have fw:((ws.length:Int) = 4) = False:=eq_false (by omega)
      rw [hb.1,hb.2.1,hb.2.2]
      simp -implicitDefEqProofs (disch:=first|omega|(simp only [go_sem,seval,f0,fw];first|done|omega)) only [go_sem,seval,f0,fw]
      (all_goals (first|refine post_fin ret_ok hM rfl ?_ ?_|refine post_fin0 ret_ok hM rfl ?_ ?_|refine post_fin normal_ok hM rfl ?_ ?_|refine post_fin0 normal_ok hM rfl ?_ ?_);all_goals first|(simp only [go_sem,seval] <;> first|done|omega)|skip;all_goals (try simp -implicitDefEqProofs (disch:=first|omega|(simp only [go_sem,seval];first|done|omega)) only [go_sem,seval]))
    match ws,h3w with
    | [a,b,c,d],_ =>
    have hla:=hwx a (by simp)
    have hlb:=hwx b (by simp)
    have hlc:=hwx c (by simp)
    have hld:=hwx d (by simp)
    have ka:bin .neq (.s (.string ⟨a.toArray⟩)) (.s (.string ⟨#[116,117,114,98,105,110,101]⟩)) = some (.B (decide (¬ a = turbW))):=neqW
    have kb:bin .eql (.s (.string ⟨b.toArray⟩)) (.s (.string ⟨#[]⟩)) = some (.B (decide (b = []))):=eqlW
    have hNc:=q_ref01_Number (X:=X) c (by omega)
    have hNd:=q_ref01_Number (X:=X) d (by omega)
    have hh:tbL2 [a,b,c,d] = if a = turbW ∧ b ≠ [] ∧ (numR c).2 = true ∧ (numR d).2 = true then some ⟨bs b,(numR c).1,(numR d).1⟩ else none:=rfl
    rw [hh] at hls
    by_cases ha:a = turbW
    case neg =>
      have hb:=hbad (by rw [hls,if_neg (fun h => ha h.1)];rfl)
      rw [decide_eq_true ha] at ka
      rw [hb.1,hb.2.1,hb.2.2]
      simp -implicitDefEqProofs (disch:=first|omega|(simp only [go_sem,seval,f0,encW_cells,encW_eq,ka];first|done|omega)) only [go_sem,seval,f0,encW_cells,encW_eq,ka]
      (all_goals (first|refine post_fin ret_ok hM rfl ?_ ?_|refine post_fin0 ret_ok hM rfl ?_ ?_|refine post_fin normal_ok hM rfl ?_ ?_|refine post_fin0 normal_ok hM rfl ?_ ?_);all_goals first|(simp only [go_sem,seval] <;> first|done|omega)|skip;all_goals (try simp -implicitDefEqProofs (disch:=first|omega|(simp only [go_sem,seval];first|done|omega)) only [go_sem,seval]))
    rw [decide_eq_false (fun h => h ha)] at ka
    by_cases hb0:b = []
    · have hb:=hbad (by rw [hls,if_neg (fun h => h.2.1 hb0)];rfl)
      rw [decide_eq_true hb0] at kb
      rw [hb.1,hb.2.1,hb.2.2]
      simp -implicitDefEqProofs (disch:=first|omega|(simp only [go_sem,seval,f0,encW_cells,encW_eq,ka,kb];first|done|omega)) only [go_sem,seval,f0,encW_cells,encW_eq,ka,kb]
      (all_goals (first|refine post_fin ret_ok hM rfl ?_ ?_|refine post_fin0 ret_ok hM rfl ?_ ?_|refine post_fin normal_ok hM rfl ?_ ?_|refine post_fin0 normal_ok hM rfl ?_ ?_);all_goals first|(simp only [go_sem,seval] <;> first|done|omega)|skip;all_goals (try simp -implicitDefEqProofs (disch:=first|omega|(simp only [go_sem,seval];first|done|omega)) only [go_sem,seval]))
    rw [decide_eq_false hb0] at kb
    simp -implicitDefEqProofs (disch:=first|omega|(simp only [go_sem,seval,f0,encW_cells,encW_eq,ka,kb];first|done|omega)) only [go_sem,seval,f0,encW_cells,encW_eq,ka,kb]
    refine callP_q (hNc _) ?_
    simp -implicitDefEqProofs (disch:=first|omega|(simp only [go_sem,seval,encW_cells,encW_eq];first|done|omega)) only [go_sem,seval,encW_cells,encW_eq]
    refine callP_q (hNd _) ?_
    cases hn2:(numR c).2 with
    | false =>
      have hb:=hbad (by rw [hls,if_neg (fun h => by rw [hn2] at h;cases h.2.2.1)];rfl)
      rw [hb.1,hb.2.1,hb.2.2]
      simp -implicitDefEqProofs (disch:=first|omega|(simp only [go_sem,seval];first|done|omega)) only [go_sem,seval]
      (all_goals (first|refine post_fin ret_ok hM rfl ?_ ?_|refine post_fin0 ret_ok hM rfl ?_ ?_|refine post_fin normal_ok hM rfl ?_ ?_|refine post_fin0 normal_ok hM rfl ?_ ?_);all_goals first|(simp only [go_sem,seval] <;> first|done|omega)|skip;all_goals (try simp -implicitDefEqProofs (disch:=first|omega|(simp only [go_sem,seval];first|done|omega)) only [go_sem,seval]))
    | true =>
      cases hn3:(numR d).2 with
      | false =>
        have hb:=hbad (by rw [hls,if_neg (fun h => by rw [hn3] at h;cases h.2.2.2)];rfl)
        rw [hb.1,hb.2.1,hb.2.2]
        simp -implicitDefEqProofs (disch:=first|omega|(simp only [go_sem,seval];first|done|omega)) only [go_sem,seval]
        (all_goals (first|refine post_fin ret_ok hM rfl ?_ ?_|refine post_fin0 ret_ok hM rfl ?_ ?_|refine post_fin normal_ok hM rfl ?_ ?_|refine post_fin0 normal_ok hM rfl ?_ ?_);all_goals first|(simp only [go_sem,seval] <;> first|done|omega)|skip;all_goals (try simp -implicitDefEqProofs (disch:=first|omega|(simp only [go_sem,seval];first|done|omega)) only [go_sem,seval]))
      | true =>
        rw [if_pos ⟨ha,hb0,hn2,hn3⟩] at hls
        generalize (numR c).1 = v at hls ⊢
        generalize (numR d).1 = u at hls ⊢
        obtain ⟨nm,le,tb⟩:=s
        have hps:=parL_some (r:=L.drop (i + 1)) hls hrn
        simp only [Option.map_some] at hps h3
        rw [hps]
        have htb:(tb ++ [(⟨bs b,v,u⟩:Tb)]).map encTb = tb.map encTb ++ [.agg [.s (.string (bs b)),.I v,.I u]]:=by simp [encTb_eq]
        have htl:(tb ++ [(⟨bs b,v,u⟩:Tb)]).length = tb.length + 1:=by simp
        simp -implicitDefEqProofs (disch:=first|omega|(simp only [go_sem,seval,encW_cells,encW_eq,outA_eq,outT_eq];first|done|omega)) only [go_sem,seval,encW_cells,encW_eq,outA_eq,outT_eq]
        refine again' (i + 1,⟨nm,le,tb ++ [⟨bs b,v,u⟩]⟩) (.inl ⟨by simp only;omega,rfl,by simp only [htl];omega⟩) (by simp only;omega) ?_ rfl
        simp only [outA_eq,outT_eq,htl,htb]
theorem q_texts_core (s:Ste) (t:List UInt8) (P:Ste) (v u n:Int) (T:ByteArray) (hW:Q X 17 [] (.B true)) (hl:t.length ≤ 400)
    (s1:Q X 41 [encSte s,.I 10] (.B true)) (c1:Q X 43 [encSte s] (encSte s))
    (gE:Q X 92 [encSte s] (.tup [.s (.string T),.I v])) (gP:Q X 93 [.s (.string ⟨t.toArray⟩)] (.tup [encSte P,.I n,.I u]))
    (rE:v = 0 → Q X 94 [encSte s] (.s (.string T))) (rP:Q X 95 [.s (.string ⟨t.toArray⟩)] (.tup [encSte P,.I n,.I u]))
    (k1:Q X 46 [encSte s] (.I v)) (h0:v ≠ 0 → T = ⟨#[]⟩) (hO:Q X 55 [encSte P] (encSte P))
    (hS:Q X 54 [encSte P,encSte P] (.B true)):Q X 15 [encSte s,.s (.string ⟨t.toArray⟩)] (.B true):=by
  have es:=encSte_eq s
  have eP:=encSte_eq P
  have hz:=bs_size t
  have fl:((400:Int) < t.length) = False:=eq_false (by omega)
  have bs:bin .eql (.s (.string T)) (.s (.string T)) = some (.B true):=by rw [bin_strEq];simp
  rw [es] at s1 c1 gE rE k1 ⊢
  rw [eP] at gP rP hO hS
  intro M
  (refine ACall_fn (cf:=L4.c15) rfl rfl fun hM hA => ?_;simp only [L4.c15,zO,zF,zT];rw [mk2 _ (by decide)];simp -implicitDefEqProofs (disch:=first|omega|(simp only [go_sem,seval];first|done|omega)) only [go_sem,seval])
  refine callP_q (hW _) ?_
  simp -implicitDefEqProofs (disch:=first|omega|(simp only [go_sem,seval];first|done|omega)) only [go_sem,seval]
  refine callP_q (s1 _) ?_
  simp -implicitDefEqProofs (disch:=first|omega|(simp only [go_sem,seval,hz,fl];first|done|omega)) only [go_sem,seval,hz,fl]
  refine callP_q (c1 _) ?_
  simp -implicitDefEqProofs (disch:=first|omega|(simp only [go_sem,seval];first|done|omega)) only [go_sem,seval]
  refine callP_q (gE _) ?_
  simp -implicitDefEqProofs (disch:=first|omega|(simp only [go_sem,seval];first|done|omega)) only [go_sem,seval]
  refine callP_q (gP _) ?_
  simp -implicitDefEqProofs (disch:=first|omega|(simp only [go_sem,seval];first|done|omega)) only [go_sem,seval]
  refine callP_q (k1 _) ?_
  by_cases hv:v = 0
  · have rE2:=rE hv
    subst hv
    simp -implicitDefEqProofs (disch:=first|omega|(simp only [go_sem,seval];first|done|omega)) only [go_sem,seval]
    refine callP_q (rE2 _) ?_
    simp -implicitDefEqProofs (disch:=first|omega|(simp only [go_sem,seval];first|done|omega)) only [go_sem,seval]
    refine callP_q (rP _) ?_
    simp -implicitDefEqProofs (disch:=first|omega|(simp only [go_sem,seval,bs];first|done|omega)) only [go_sem,seval,bs]
    refine callP_q (hO _) ?_
    simp -implicitDefEqProofs (disch:=first|omega|(simp only [go_sem,seval];first|done|omega)) only [go_sem,seval]
    refine callP_q (hS _) ?_
    simp -implicitDefEqProofs (disch:=first|omega|(simp only [go_sem,seval];first|done|omega)) only [go_sem,seval]
    (all_goals (first|refine post_fin ret_ok hM rfl ?_ ?_|refine post_fin0 ret_ok hM rfl ?_ ?_|refine post_fin normal_ok hM rfl ?_ ?_|refine post_fin0 normal_ok hM rfl ?_ ?_);all_goals first|(simp only [go_sem,seval] <;> first|done|omega)|skip;all_goals (try simp -implicitDefEqProofs (disch:=first|omega|(simp only [go_sem,seval];first|done|omega)) only [go_sem,seval]))
  · have hC:=h0 hv
    subst hC
    simp -implicitDefEqProofs (disch:=first|omega|(simp only [go_sem,seval,hv];first|done|omega)) only [go_sem,seval,hv]
    refine callP_q (rP _) ?_
    simp -implicitDefEqProofs (disch:=first|omega|(simp only [go_sem,seval,bs];first|done|omega)) only [go_sem,seval,bs]
    refine callP_q (hO _) ?_
    simp -implicitDefEqProofs (disch:=first|omega|(simp only [go_sem,seval];first|done|omega)) only [go_sem,seval]
    refine callP_q (hS _) ?_
    simp -implicitDefEqProofs (disch:=first|omega|(simp only [go_sem,seval];first|done|omega)) only [go_sem,seval]
    (all_goals (first|refine post_fin ret_ok hM rfl ?_ ?_|refine post_fin0 ret_ok hM rfl ?_ ?_|refine post_fin normal_ok hM rfl ?_ ?_|refine post_fin0 normal_ok hM rfl ?_ ?_);all_goals first|(simp only [go_sem,seval] <;> first|done|omega)|skip;all_goals (try simp -implicitDefEqProofs (disch:=first|omega|(simp only [go_sem,seval];first|done|omega)) only [go_sem,seval]))
theorem parS_len (t:List UInt8):(parS t).tbs.length ≤ 64:=by
  unfold parS
  split
  · exact Nat.zero_le _
  · split
    · exact Nat.zero_le _
    · cases parL 0 ste0 (spl 10 t) with
      | mk o k =>
        cases o with
        | none => exact Nat.zero_le _
        | some s =>
          show (if chkSte s = 0 then s else ste0).tbs.length ≤ 64
          split
          · rename_i h;exact (chkSte_in h).2.2.1
          · exact Nat.zero_le _
theorem q_law01_SiteTexts (hI:ItoaX X) (hJ:JoinX X) (hC:CutX X) (hSp:SplitX X) (hA:AtoiX X) (hT:TrimX X) (hW:Q X 17 [] (.B true)) (s:Ste) (x:ByteArray):Q X 15 [encSte s,.s (.string x)] (.B true):=by
  obtain ⟨t,rfl⟩:∃ t:List UInt8,x = ⟨t.toArray⟩:=⟨x.data.toList,(bs_of x).symm⟩
  have es:=encSte_eq s
  have hz:=bs_size t
  have hSh:=q_ref01_ShortSite (X:=X) s
  by_cases hs:shortS s = true
  case neg =>
    have hs:shortS s = false:=by simpa using hs
    rw [hs] at hSh
    rw [es] at hSh ⊢
    intro M
    (refine ACall_fn (cf:=L4.c15) rfl rfl fun hM hA => ?_;simp only [L4.c15,zO,zF,zT];rw [mk2 _ (by decide)];simp -implicitDefEqProofs (disch:=first|omega|(simp only [go_sem,seval];first|done|omega)) only [go_sem,seval])
    refine callP_q (hW _) ?_
    simp -implicitDefEqProofs (disch:=first|omega|(simp only [go_sem,seval];first|done|omega)) only [go_sem,seval]
    refine callP_q (hSh _) ?_
    simp -implicitDefEqProofs (disch:=first|omega|(simp only [go_sem,seval];first|done|omega)) only [go_sem,seval]
    refine callP_q (hW _) ?_
    simp -implicitDefEqProofs (disch:=first|omega|(simp only [go_sem,seval];first|done|omega)) only [go_sem,seval]
    (all_goals (first|refine post_fin ret_ok hM rfl ?_ ?_|refine post_fin0 ret_ok hM rfl ?_ ?_|refine post_fin normal_ok hM rfl ?_ ?_|refine post_fin0 normal_ok hM rfl ?_ ?_);all_goals first|(simp only [go_sem,seval] <;> first|done|omega)|skip;all_goals (try simp -implicitDefEqProofs (disch:=first|omega|(simp only [go_sem,seval];first|done|omega)) only [go_sem,seval]))
  rw [hs] at hSh
  have hl:s.tbs.length ≤ 65:=by
    unfold shortS at hs
    simp only [Bool.and_eq_true,Bool.or_eq_true,decide_eq_true_eq] at hs
    omega
  clear hs
  by_cases h2:t.length ≤ 400
  case neg =>
    have fl:((400:Int) < t.length) = True:=eq_true (by omega)
    rw [es] at hSh ⊢
    intro M
    (refine ACall_fn (cf:=L4.c15) rfl rfl fun hM hA => ?_;simp only [L4.c15,zO,zF,zT];rw [mk2 _ (by decide)];simp -implicitDefEqProofs (disch:=first|omega|(simp only [go_sem,seval];first|done|omega)) only [go_sem,seval])
    refine callP_q (hW _) ?_
    simp -implicitDefEqProofs (disch:=first|omega|(simp only [go_sem,seval];first|done|omega)) only [go_sem,seval]
    refine callP_q (hSh _) ?_
    simp -implicitDefEqProofs (disch:=first|omega|(simp only [go_sem,seval,hz,fl];first|done|omega)) only [go_sem,seval,hz,fl]
    refine callP_q (hW _) ?_
    simp -implicitDefEqProofs (disch:=first|omega|(simp only [go_sem,seval];first|done|omega)) only [go_sem,seval]
    (all_goals (first|refine post_fin ret_ok hM rfl ?_ ?_|refine post_fin0 ret_ok hM rfl ?_ ?_|refine post_fin normal_ok hM rfl ?_ ?_|refine post_fin0 normal_ok hM rfl ?_ ?_);all_goals first|(simp only [go_sem,seval] <;> first|done|omega)|skip;all_goals (try simp -implicitDefEqProofs (disch:=first|omega|(simp only [go_sem,seval];first|done|omega)) only [go_sem,seval]))
  have hP:=parS_len t
  have hS:=q_ref01_SameSite (X:=X) (parS t) (parS t) (by omega)
  rw [decide_eq_true ⟨rfl,rfl,rfl⟩] at hS
  have gE:=q_site_Print (X:=X) hI hJ s (by omega)
  have k1:=q_ref01_CheckSite (X:=X) s (by omega)
  by_cases h0:chkSte s = 0
  · rw [if_pos h0] at gE
    exact q_texts_core s t (parS t) _ _ _ _ hW h2 hSh (q_law01_given s (by omega)) gE (q_site_Parse hC hSp hI hA hT t (by omega)) (fun _ => q_ref01_Print s h0) (q_ref01_Parse t (by omega)) k1 (fun h => absurd h0 h) (q_law01_own (parS t) (by omega)) hS
  · rw [if_neg h0] at gE
    exact q_texts_core s t (parS t) _ _ _ _ hW h2 hSh (q_law01_given s (by omega)) gE (q_site_Parse hC hSp hI hA hT t (by omega)) (fun h => absurd h h0) (q_ref01_Parse t (by omega)) k1 (fun _ => rfl) (q_law01_own (parS t) (by omega)) hS
end
end Go.Nac.L4
