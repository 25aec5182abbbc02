import Derived.Test.YtlgfoolepdjmoaaGreatDoorCards
import Derived.Test.YtlgfoolepdjmoaaGreatDoorTie
import Derived.ProofKit
import Derived.Deep.DeepHandedRow
import Derived.LaidLaws
import Derived.Test.YtlgfoolepdjmoaaGreatDoorAsZT5
set_option linter.unusedSectionVars false
set_option linter.unusedVariables false
set_option linter.unusedSimpArgs false
section
namespace Go.As.Try
open Go Go.As Go.Proofs Go.RowKit
set_option maxRecDepth 100000
theorem Ps:El [] (.bool (.lit true)) (aiv 6)=true:=aa
section
variable (I:bH) (hI: ∀ρ ro h,I.ok ρ ro h->base.ok ro h)
include hI
theorem TZ:@ik I Tryz.prog 147 (Ch [.str [97]] (.bool (.lit true))):=by letI:=I;obtain⟨c,hb⟩:=oQ (f:=Tryz.f147) aa;exact yW (oJ I hI 147) (fn:=Tryz.f147) (qH aa ae) aa hb afb
theorem TY:@ik I Tryz.prog 147 (Ch [.str [98]] (.bool (.lit true))):=by letI:=I;obtain⟨c,hb⟩:=oQ (f:=Tryz.f147) aa;exact yW (oJ I hI 147) (fn:=Tryz.f147) (qH aa ae) aa hb afa
theorem UN:@ik I Tryz.prog 6 (Ch [] (.bool (.lit true))):=by letI:=I;obtain⟨c,hb⟩:=oQ (f:=Tryz.f6) aa;exact yW (U! I hI 6) (fn:=Tryz.f6) (qH aa ae) aa hb Ps
end
theorem aiz:Tryz.lays189_ren.f 189=57:=aa
theorem acd:Tryz.laysNm220_ren.f 20=58:=aa
theorem R! (I:bH):@ik I Tryz.prog 57 zj:=by letI:=I;refine Ly ?_ (NN (f:=Tryz.f57) (qH aa ae) aa aa);intro jX off cap zs w hH LL gT;have:=Any.slices_Sort_int Tryz.lays189 jX off cap zs w hH LL gT;rw [aiz] at this;exact this
theorem aa8 (I:bH):@ik I Tryz.prog 58 zk:=by
 letI:=I;refine LA ?_ ?_ (NN (f:=Tryz.f58) (qH aa ae) aa aa)
 ·intro jX off cap zs w hH gT fW;have:=Any.slices_Compact_int Tryz.laysNm220 jX off cap zs w hH gT fW;rw [acd] at this;exact this
 ·intro a cap w;have:=Any.slices_Compact_int_empty Tryz.laysNm220 a cap w;rw [acd] at this;exact this
theorem W7:El [.dq] (.tuple []) (yF 57)=true:=aa
theorem KI (I:bH) (hI: ∀ρ ro h,I.ok ρ ro h->base.ok ro h):@ik I Tryz.prog 57 (Ch [.dq] (.tuple [])):=by letI:=I;obtain⟨c,hb⟩:=oQ (f:=Tryz.f57) aa;exact yW (oJ I hI 57) (fn:=Tryz.f57) (qH aa ae) aa hb W7
noncomputable def Ou (g:Nat):Option (List W->St->T (W×St)):=
 match Nat.beq g 6 with
  |true=>some (Ch [] (.bool (.lit true)))
  |false=>match Nat.beq g 147 with
  |true=>some (orElse (Ch [.str [97]] (.bool (.lit true))) (Ch [.str [98]] (.bool (.lit true))))
  |false=>match Nat.beq g 57 with
  |true=>some (orElse (Ch [.dq] (.tuple [])) zj)
  |false=>match Nat.beq g 58 with
  |true=>some zk
  |false=>LC g
theorem Uf (I:bH) (hI: ∀ρ ro h,I.ok ρ ro h->base.ok ro h): ∀(g:Nat) (h:List W->St->T (W×St)),Ou g=some h->@ik I Tryz.prog g h:=by
 intro g h hh;unfold Ou at hh;split at hh
 ·rename_i hg;have:=aq hg;subst this;simp at hh;subst hh;exact UN I hI
 ·skip;split at hh
  ·rename_i hg;have:=aq hg;subst this;simp at hh;subst hh;letI:=I;exact ni (TZ I hI) (TY I hI)
  ·split at hh
   ·rename_i hg;have:=aq hg;subst this;simp only [ah] at hh;subst hh;letI:=I;exact ni (KI I hI) (R! I)
   ·split at hh
    ·rename_i hg;have:=aq hg;subst this;simp only [ah] at hh;subst hh;exact aa8 I
    ·exact Ed I hI g h hh
end Go.As.Try
end
section
namespace Go.As.Try
open Go hiding Stat Spec shape
open Go.As Go.Proofs
set_option maxRecDepth 100000
def ahx:List fv:=gb _ (gU "1GgB8wkCJaRkOSgFkeQAiRhoNoY9yplCWtg_nTmfo0F_0KTWX9xdhgX8iyn3FXYZK5OnOQOkNldX4bDnwDnlRzLyg8ZOTaQFX961UPQsoZ7WqNZ7bH90z6dgKOn7ph5Ud53NikSuZ88kSycxbX6hfo5Hj3Kngk43PZh8Q_zPP1uulRYMbt3uE5X_6Yv5BvtylUbjeJLSM0ubQmYxi2KLzQi77VRVdwlxaMsuNDjf5Agt47omWs1Ad0HzuHW4G0dxeCirdwzOcVMa3Gx4FvDhQq7oCxsJ45bSpEhhLub9nFZnuRkrZUgjR8OuEovqqhyDBoMbke16oW05DHYZ" 76 7)
def ahw:List fv:=gb _ (gU "3YwbKg0RgDMVZnkKty5tqScfTxxcj2ElDoKBwwJhQtCV5wRU_RUeX88RKDbTuM2sGG7LPAZKKaiv7fXKSlAShEopjSOyZNg_MvD45eYDY3rm3nYaNFumX0zvkgC6_qqPmgRQ8FaymERkN1xqpFiK3a7q3JlEXwvvCr_NYEEH9ozq2UL_GpCqKe7P5mGqcJXdhiSCGbVZUy6SJol5LfnmiYgzbBPFRiQla2_81quGMOLUAamAyD1ufJwEBTVayLT99MuHCyTlKJwRoSCuGW6O3B1NHr3MZkdju4fNWYrC1C3jyQPLCCSSqsnhP58WPtQqh5gpCH4LR1rGOEtvoaomGNJ1zAgGhQCay_hHEgF" 76 12)
def ahv:List fv:=gb _ (gU "6VnMB9kvge5KwnAbld8UPAaDPJGqdUUuqXAFYVMhDnVdBdjOftJefG7hU9pjvHBBq46QuwkOOtpxgupAtc4zAk9M_42L52pcBvhh9__yjZ8ZYgktSuS0pjSrHf94Mhh6BqBz_Eadq9SwgHA2s2iYBSXtvGOSopVlcE5ZSdg2cjwkniNBujOcavE1g0lVNOO6mZ2eKLdbswshON5lWMAExf_VLys4gaZbdzEWLY7n0dT5SLFcq7zj8b0VlLSOqhtVHtQ9a1S7u7U0U" 76 16)
def ahu:List fv:=gb _ (gU "BrCezvtspZ5EUh06GFQJT3bgZ4OCDy1tLj2ejEMp07pCQhJpuALYr6BxTvsv92rWzTl5R0HolGEY1GK6BlibWv0t_AdvPbx8aqhD3Sm_BbLZKvhJUyimLaFj59nJ3iT0fWhSQ8TD_3TgC03Vb64Sp9vunH6H_1MX28ytw9FTmXlk7hP46sKA3BvjCkuL2dVxs36spFoueJDqtJVH1tAoTmwwZ6O9kkG4TxDn9Y_oRQezRmriw1fhQ0ohddHu4oawJvrPeoc7nS_0mC5GwH7C46H0eV3mG3g7_Hdg6T4Cx7xYygH09bfCO" 76 1)
def aht:List fv:=gb _ (gU "5CG5PkZEQqFmnn6EH_i0po8EnYe5FrzJZJM8YDDHZ3QiDbstcB5hbLLUUyzW71jv9Qobnf0O3rmNoJdWwBiZZqwm781CHlqGEmob_n8Rxpp4OFbB5WfuA" 76 4)
def ahs:List fv:=gb _ (gU "BcigFpfdbfwfVCJ9utvJ8tHVuNEA_w9ajxK8R7WkEX9tMBNX_OyJLFjJMLM_eeUB9hxTyQ3gQPWx8Oi3VykzDrf7ps3f060QRLpDVbi9szS_ldlSEtwe6ac1USbUfjn9dmrwvC57xRMiFtmltLzti55KhYnm2nxmiv3UAhvtSptGgDFO8oGTdmzio6ET7Y2sApJUzBjAN5jZRhvuGyTrvoZRbcr_bmDKAUutZecV3_u9NTQL1rlHCh2xX2V47K5DGR8jcilqC2aFkhhFu1F1r2AfVJBeJOhf6n8FGmKeNhAMvCzopqaRkEjhc8zV31yeAdxJ6ztS1kYuE" 76 1)
def ahr:List fv:=gb _ (gU "Ya1q4r5ofJbk9QcNnlXy8bxJLA7EddOBVn8Ytk3xAMxw2Xy_3qCaxeAEQMoChk8skG_h3KNBfMhjAOjQ3G6GoJSH3n1XBSa9vy3swESYnzWZ0Mq2h6nPeXGZzy2K1Y1MnqzW7WyifyiU2KaE5hf5Kux493m50ZQPaHLloQ0teUv54E5PHYmhooEpGuJtmKJ858gQxNQsnfPiSYa79J4n3vS4C7aV3qUDNysSAY2WKGdhnEFjpmKKs8iZNnTDmUx3XPWaCqKMTohbwCmko1HB_okTzuR4BKAkT0R4bVkCj3BJC8HuMthzcqd1D2ZM4jaDw_TQkt1pWPHFoMcVRuZiXkkEVuehFlF" 76 6)
def ahq:List fv:=gb _ (gU "KjKQRKE_T4bbCwuB_3xyfADmCx24Mf9dcDvcw0cOXnyjGVJGcBM55VkqJ8A_mjx1me9hxPWkuiXtyDaQ4WQ1DLsFAW4h7lcnZLr5iNpTbYzpX2Psdc9LXibWPUsRV5jGDFCL3Ush3tsHVFLnjzKZ_h5Jmw9c3UTXaRwJ6bwXSKKsj4opKy5huaz68q5gWEl7fXqF6Uzw5c_PLmXhcXXtGTiiAP8aQUJcVMz5r66VlVrVdH5TaGK5ZsawVyfHBhTeuxLrklidCkqosWTalvZlijfEYXwApv39dSDOqrrxWQpCLeGdQi1QV9TtmRE8oZlive00oPV0g8b5PMpjmJ5lxyoTl8Q" 76 7)
def ahp:List fv:=gb _ (gU "2qR67GMFd7odwphohPoQn6Ka66nAgoUE6NqDGXbNFTv0CbejCOLnHSj3pJjUtJ4TuzNw7swcAkEymPvkf1KD0FsxTk3JUdybkE7RP8aTSs8c080Xul9XQEZF0PsRDSksl5vpKzN3OvOhGG6VbMrKB8YpjPBYFajuHUpAP9UjXc5KN1nqQ37zggLZHfb9d6RfjP4d01zCiDFd1UrMjdObt0eM4q00_pODAc0R2cSTciQABGChEuRPyPGya642hiLsjDleUvC" 76 2)
def aho:List fv:=gb _ (gU "DDsPwjJi6klRewsnc4bvb8C5SpEjNfJcRnDRc71BYirZ_fnnwG3bxOvui7PcJuyQ1GSeCiL2c7jhSoz4mZqZzfGcd2jC6QFrBLmJ1Ky0r5A31QCxaE6D84NEYUtPbapPlTPwNdr96_oXg63TdSVADFDhbqTMMNLnBOP4wzUdmZHfipOhYbpFwpTX0i5XYow4fdUWYyndkEgU84RrWxiWebkUa12Q9rJ_9Kl8xJK4hVhoEKdOFdo0XUqxMfVWvfXFG25cxJ0iJ59UPdg_HfKvxwh8982Qiu3LQAHb7tYLVjsmKdFYpMJtL1d4fcvpUshgsQcZ5old8WjisqSaCjh83ZPHiwUNyZgoTsrARZ6XOw2qWw7dNn01rqvKGeGYdWLuXKqlksDjFQssCqNiPbAi6oZvxsjQCLcW8nyx5wh3rLwGqmjCD5LNQAd70euslJY66F5RG61Rji7RK8R7Rp9nwgEe7kreAPRv6gmrXD0X6AsO3QRwQJCEp2dY27TxAm6P0H4uG52wZQ5nUuKYFiZ4N0846FFl" 76 1)
def aet:List fv:=gb _ (gU "40SvngXGMUC2McUQ66nr588DPZVdtkHpd3zYPTbhquC6eBgBjJpcw3jMyGj1MknjfeDM5tm4ZLV5HmYBZ9uceQzdXYb_C0VvFvt2evOjWfPQSjf1J9xPvKGWWampTeoYFMkuArFdrhOZ7xDwQim4MziqEEpjRYflzj82ig3dtkjVuR0ZjjdA5Frnr558ktDF2CY8V0ccms5HxVOlQB2XgArT3cd4X408FlolTGS_MDcqhgktgVPaBn213SgeR0GkgRteq2ZdoxyWldzXdbOtZ2ag3kHelQHtRb_tZ7Bd9ozYbQqeH8Z83b3ly5pZsZ" 76 2)
def aes:List fv:=gb _ (gU "2kchrbJ16guwotnL3KPyBZMfgje8LMFdRZdnexXhmGFSDFdxtUj8uJuOlS1WHKMXn0iOoEmR_sCbMaMNcvWOm_rcJcnoEpryOyGZbLvFFspQwLbSQMx3B6d955zOXZT915Y0P4jijWv5iFB6X7FfPlOZcUpd_rZUFMHegRdYJyLmOMXiCEKwm3UNtEP22fEYGLyioim56fl1LCiW8YHSpyiu47oZl1KZQqc0nyp8zPxOKMhjSBNiaf5AOBg0X1b04b9OdY1znLLg7VkFdfS48tJ0UwWT7hoT" 76 2)
def aer:List fv:=gb _ (gU "SAw1LdanObOaC2V9r2UxP5D37RFWJ9zGp2bhaHVfHvXiHgDqKy9rUTF2RvUDRjEkhk9dDtDEFLsr15deklEgHCy9gxhzY5bicHG2wqZAbZcWOZmi5UtStAsEUa0JybfFtM9UPycFzhwqk8TYu5ThwcHcz3H5MRQhySxgjZpTkEvcPhBujn0LebfMlaTQG8f8MG35JaMa2hQtloAoknVf0OKBEy0didBLyNOsic2T3foLn1HQ8tpd2UdKwQMx3f0BwBGM3GgfZen_MiFxbKHCbmnTPCQTzSmhe6YMM19Q" 76 3)
def aeq:List fv:=gb _ (gU "1xWxcy2TGgxOfNxH9han7SpDEPClMBumwYJV_32t3VXYvjUiM7UrxAvwiFrD5BFnWmKRRfn34vwOGcicJ7es6Z9Vig6gQg753gRnMXlXA69fdAPiJ2iXClvHijP6_tcXM3b6jO02zTbTwxKnMK2DsCitwzBFCQdc4pSeWXQLzGFGxcNRfKlWYL2scQAxTdVgeqdb2XLlqNDUbDL8k3whoXBp1xtRRBJ" 76 2)
def aep:List fv:=gb _ (gU "BDTMZ9s1Ovs6Bvr9gqG4P31gdmBYauJaOAslFuXCktul9PKh6UrxoxvUJGLNZ4mk4uG6jku8k3py8t5nd4yRViJfvwwF2waW5WqcKUCkiUxF1W2Ucs8vlMcrroK2Dy0udtGDkZC66omKPdgquVPX2cUSKs0mpT4GziHrLSHmNZdq_VQ14jMOUv2fPYbBeqpCmG4FDOZrNMv4LeGAu7dt1kB07bAsaRNVR4pL3jQvB3NqAr_tLZqUiZV" 76 2)
def aeo:List fv:=gb _ (gU "A8ctdqJT1NEKgbMESljeVPaQ9VeiMBmKWKAmqDxcRpC1tWJ6qLOgxarpbnG33c4CdmQZTPKH0wlXZ3xHMjKK1hVbUZB_EC_P_LWPt8XwtG6lti1uwx6mMzUk2aMeFcUPZih3A_1nDgWJOUJ8tHcsY7w7pbTtnFuzzy1X2amL2FldXRSQl99D5zRQxppbySfKl13g9qCkM1pzm5ykJ84GCezgXtVt2n9CkSY0DjEZYapWpYiYj1KJFUFDZsgZH6MXsLhm37u0pu" 76 2)
def aen:List fv:=gb _ (gU "3OZZ67ZrksPl_8CaFFRdu4C9XLxPzU3D2nPq6u9qLygKSB2gck7P6FY5feYxFNrjGEJ7gUvdo2SM_AsEv6esUw9sJPw10qyq_eNsT72YVaus1NQQtcx77mpRVlmC1jbweShhAnZoH3j7yFRV4QMRqfvefdlTw2G7pFozW7GerS_L3axkQkjbxpqbalq5Qgv8BZ9OUFmDUDuqCj9MW0gDMHyhLpCHnnMywF_HGyME5edVjWlsb3Mw64fQuXSgMlMc13dd1QyC2Hj3ssdw4sFEBKlV01o9Zh" 76 2)
def aem:List fv:=gb _ (gU "SsvRuP439HoeUq_qN5PSqNsUQhC2HCzd6aF2_ER407y8O2sL9x4mrS_uKmx8EjCsbtisuHMx38zKEdFj06wWMFG1NzznzrYVL2mo5cJXLw0CQlqr3XolFU20okwkOvdoKa12BNnHRc33h3C5xKwd3yyzyE06XgzHfQmW4vd1y5wCUbDBkYXmjf6PGlRjfJGpNeksQHatVbDuqvhfCMky6hyBXLyviOFt" 76 3)
def ael:List fv:=gb _ (gU "Vk9OX8XTYYBHeXOE6Xkn4CnNHzstemjzgsWPK8z0j5xq19uEJXiq8SbBl_pnaq_Viy3m6aaXr_wNQ_BZEvVnt8y_HxTN_rNcM3GV18vPzs11zAARof8EnmOz33YCvhaYAEJxNit1fZfmoop_YfbwqF03AXaWGyNP7eLui64TN9BQqnRBozNBNS6oxgjCEwkAdMXKi9iNKpdRKdb2DMVpNxc5_8DvPj3xMOU5nuSewnAPi1YePQg0G4X8bFy_6FdJz_47CwYlRiW_" 76 2)
def aek:List fv:=gb _ (gU "2RR8r1OtJPZjhRlsFc2NwUmxFZXhNXuWvx5Li4YhiQsYD9CvP_2tqUgg28hr39VfeYltczTsVRdvKbGwa_mb8AsivzXxDbTeXY80sJoQD91wHkYG7FzviakH5dy0BeMeA3SUvr76qOCNy8G89wos7ZDinUysCKbD70TZRiipgZd8rtujzHs9MMUbtopuDkM1gC5Z2oSxuqrZJ2E7Ce74uST4EoNlyalLk8vcybZd0LgKFxptQQW64eKg9L05aDMl3Q" 76 3)
def aej:List fv:=gb _ (gU "16QnnTPZ8gEaPhD4hsnS8mKLfZtfxwm9p4Jt9tQR1rxD1iOpUe_qmeqxSuSBzQG5Jh_mQMNqbssf5FiLVs433fJ4U2r7gueDcsNxn0FsG8bkq5OzagDCfgUsjupbyOMpKDHKkKDELzMbvJno0dVbtnK4Hx9A0k4VrgpdBMLzogkz6LO1S7hKOdnYbt7jynK88fTpHRXJ8g8p_0BHsHelA9GFwgN_sqaZp3WYMTw9J9hGmQst9LxRwvtcdJdQAuh2Pr52HPZuQDBaBCks_2Tek71yusASEylVhOi5lFKjn3x4PtbPGxTt423H3rC7x" 76 4)
def aei:List fv:=gb _ (gU "LtBAUgbuTKNVtJHJEea0m1v1wQqG5Hvstbf5KGBS2M7D6TnxACSlBSoJd7kiE9YLhTDzuHRo5YvM8_PozYMlmJ_p7luOMpY42T07FD8fyABK8koyL5iU0b6Yc0BR5pmDgPLbGkXe1HB3KuP6rDYdrRnmJ4BmTUq0ixT19UVRfmWWc1yDKwAMxBMsh7zl7Qz7ZmnqV6f8uibrOjavhr_UKsO6oNbRMCCNhu3EZqV1xozbZCjZ9O4GaKdmpHCgSkitJzSKujL8TtBUE2e0M9JBQyTlzyy6Ze6tPphCP0StKfoBULJG3TSyRyuN5YTkXhgJbkX_fB30lRibRS0Bb" 76 6)
def aeh:List fv:=gb _ (gU "824bfNuan7SzN53bddspQSLdAEgDCoMe5WJR7ZFt34XF9kXOaS5NOHlHzN7U4Y9drRdBU4Dko0kmVGvzljunzQB1nyLFf5JNBLbf6k4_iMLlFNTkwA7fCLDdoiTPH8wOno9oJjptkpNzRV32Dsz_lA0oyl2YfXDjkmUY74N5uEqECA_7Yx7JJTRC4QSrGKR6JMSxLonVrOjl0tzlm1SzFYBXnnlW14KtuKA0Wg4jU8eZSnQ3O1WpMymC3U5re8cOkR7bGNNzTPJxFieROq3Wlsix4F3V3m9gxMKpCi4fYSh27S1CYoom8LgkGFCHnNz" 76 6)
def aeg:List fv:=gb _ (gU "8CVwjHbNz5AO5Fo_2wS6Fy1LpBnUWVVGQlt_D44ahL" 76 1)
def ag8:List Nat:=gb _ (Ku "20100000000000000000000000000000000002521JS000000000000z60w00000000000000000000000000D080zzs000000x0")
def abv:List fv:=ahx++ahw++ahv++ahu++aht++ahs++ahr++ahq++ahp++aho++aet++aes++aer++aeq++aep++aeo++aen++aem++ael++aek++aej++aei++aeh++aeg
def feT:Tr FE:=Kv 12 (K' (ag8) (abv.map fv.F))
def ag5:List Nat:=gb _ (Ku "00017d17e102017c17a10g10b17b10r10p10Z17Z103010510m10V10a010J73s3u3w3y4A4C4E0028c8d022v0c10W10Y10_24X4Y24g4h11A0017_010U010710X10H93t3v3x3z4B4D4F4H4J00010d000001080000010910610A0022u0B10C0000000000000000010E10F11c010G0010D00000000000000000000000000000000000000000000010M0010S000010T10L0940414243444546474G0000000010K11k11d00000000148014910N00000000031e1h1l00000000010Q10R00010O10P71f1g1i1j1m1n1o")
def ae7:Tr (List Nat):=Kv 12 (ad4 999 (ag5))
noncomputable def St:UQ:=⟨Tryz.prog,base,ttE,ft,J3 ttE hints,EY ttE hints,Ou,lim 536 feT,fun g=>(lim 200 ae7 g).getD []⟩
noncomputable def S:Sys:=St.sys
theorem aj1:(List.range 536).all (fun k=>match feT.get k with |some f=>YY ft k f|none=>true)=true:=aa
theorem ae6:(List.range 200).all (fun g=>K8 ft (lim 536 feT) g ((ae7.get g).getD []))=true:=aa
theorem aeR:Fw S:=by
 refine Q? VO afP (fun I call hc=>@vt _ I _ VO mixed _ _ hc) Uf (fun k f hf=>?_) fun g=>?_
 ·have Oy:lim 536 feT k=some f:=hf;unfold lim at Oy;split at Oy
  ·simp at Oy
  ·rename_i hle
   have ff:k<536:=by
    rcases aW k 536 with h|h
    ·exact h
    ·rw [an2 h] at hle; simp at hle
   have:=aZ.1 aj1 k (am2.2 ff);rw [Oy] at this;exact this
 ·show K8 ft (lim 536 feT) g ((lim 200 ae7 g).getD [])=true;unfold lim;split
  ·rfl
  ·rename_i hle
   have ff:g<200:=by
    rcases aW g 200 with h|h
    ·exact h
    ·rw [an2 h] at hle; simp at hle
   exact aZ.1 ae6 g (am2.2 ff)
end Go.As.Try
end
section
namespace Go.As.Try
open Go hiding Stat Spec shape
open Go.As Go.Proofs
set_option maxRecDepth 100000
noncomputable section
abbrev jn (c:SB) (a:T Lf):=sp c a fl
abbrev tK (c:SB) (a:T Lf):=sp c fl a
abbrev jd:=SB.eq
abbrev gZ:=SB.lt
abbrev stx:=V.op .set
abbrev nrx:=V.op .norm
abbrev NJ:=V.op .snoc
abbrev rpx:=V.op .rep
abbrev qpx (n:Int):=D.p (.i n)
abbrev pw (n:Nat) (x:V):=nm (ce n x)
abbrev CH (j:Nat) (l:List V):=SB.eq (a0 j l) (.lit 1)
abbrev rq (j:Nat) (l:List V) (a:T Lf):=sp (.eq (a0 j l) (.lit 1)) a fl
abbrev qa (a:V):=SB.eq a (.lit 0)
abbrev wY (a:V):=SB.lt a (.lit 0)
def bsx:List Nat->D
 |[]=> .i 0
 |n::l=> .p (.i n) (bsx l)
theorem dj {n:Nat} {t:T Lf} (h:S.tree n=t:=by kernel_rfl):S.tree n=t:=h
def b0:D:=bsx [0,0,0,0,0,0,0,0,0,1,1,0,0,1,0,0,0,0,0,0,0,0,0,0,0,0,0,0,0,0,0,0,1,0,0,2,0,0,0,0,5,5,5,5,0,5,0,0,3,3,3,3,3,3,3,3,3,3,0,5,5,5,0,0,0,4,4,4,4,4,4,4,4,4,4,4,4,4,4,4,4,4,4,4,4,4,4,4,4,4,4,0,0,0,0,4,0,4,4,4,4,4,4,4,4,4,4,4,4,4,4,4,4,4,4,4,4,4,4,4,4,4,4,5,0,5,0,0,0,0,0,0,0,0,0,0,0,0,0,0,0,0,0,0,0,0,0,0,0,0,0,0,0,0,0,0,0,0,0,0,0,0,0,0,0,0,0,0,0,0,0,0,0,0,0,0,0,0,0,0,0,0,0,0,0,0,0,0,0,0,0,0,0,0,0,0,0,0,0,0,0,0,0,0,0,0,0,0,0,0,0,0,0,0,0,0,0,0,0,0,0,0,0,0,0,0,0,0,0,0,0,0,0,0,0,0,0,0,0,0,0,0,0,0,0,0,0,0,0,0,0,0,0,0,0,0]
def b1:D:=bsx [32,97,99,113,117,105,114,101,32,97,100,100,32,97,114,114,105,118,101,32,98,97,114,114,105,101,114,32,98,114,111,97,100,99,97,115,116,32,99,111,110,100,32,100,111,32,100,111,110,101,32,101,108,115,101,32,105,102,32,108,111,99,107,32,108,111,99,107,102,111,114,32,108,111,111,112,32,109,117,116,101,120,32,111,110,99,101,32,112,117,116,32,113,117,101,117,101,32,114,101,97,100,32,114,101,108,101,97,115,101,32,114,108,111,99,107,32,114,117,110,108,111,99,107,32,114,119,108,111,99,107,32,115,101,109,32,115,101,116,32,115,105,103,110,97,108,32,116,97,107,101,32,116,104,114,101,97,100,32,116,114,121,97,99,113,117,105,114,101,32,116,114,121,108,111,99,107,32,117,110,108,111,99,107,32,118,97,114,32,119,97,105,116,32,119,97,105,116,102,111,114,32,119,97,105,116,111,110,32,119,108,111,99,107,32,119,114,105,116,101,32,119,117,110,108,111,99,107,32]
abbrev Qa:V:=.lit 0
abbrev Qb:V:=.dG 1
abbrev Qc:=ln Qb
abbrev pD a0:=gZ Qa a0
abbrev Qd:=pD Qc
abbrev pH a0 a1:=gZ a0 (.lit a1)
abbrev Qe:=pH Qc 1759218604441
abbrev Qf:V:=.dG 0
abbrev pC a0:=nrx a0 Qa
abbrev Qg:=pC Qb
abbrev Qh:V:=.ei (.i 1)
abbrev lC a0:=jd a0 Qh
abbrev Qi:=lC Qg
abbrev Qj:=[Qf]
abbrev Qk:V:=.ei (.i 2)
abbrev k0 a0:=jd a0 Qk
abbrev Ql:=k0 Qg
abbrev ez a0 a1 a2:=jn a0 (ju a1 a2)
abbrev cZ a0 a1 a2 a3 a4:=sp a0 a1 (sp a2 a3 a4)
abbrev rU a0 a1 a2 a3 a4 a5:=cZ a0 a1 a2 (ju a3 a4) a5
def KC:=rU Qd (ez Qe 9001 [Qf,Qb,Qc,Qa]) Qi 9002 Qj (ez Ql 9003 Qj)
abbrev Qm:V:=.dG 3
abbrev Qn:=jd Qm Qf
abbrev Qo:V:=.dG 2
abbrev Qp:=gZ Qm Qo
abbrev Qq:=wY Qm
abbrev Qr:=gZ Qm Qc
abbrev Qs:=el Qb Qm
abbrev Qt:=ce 4 Qs
abbrev ic a0 a1:=gZ a0 (ln a1)
abbrev mV a0:=ic Qa a0
abbrev Qu:=mV Qt
abbrev Qv:V:=.lit 17592186044416
abbrev mX a0 a1:=gZ (ln a0) a1
abbrev mU a0:=mX a0 Qv
abbrev Qw:=mU Qt
abbrev Qx:=ce 5 Qs
abbrev Qy:=mV Qx
abbrev Qz:=mU Qx
abbrev Q0:V:=.lit 1
abbrev pI a0 a1:=wr (.add a0 a1)
abbrev kZ a0:=pI a0 Q0
abbrev Q1:=kZ Qm
abbrev Q2:=el Qb Qf
abbrev jL a0:=pw 0 a0
abbrev Q3:=jL Q2
abbrev Q4:=pw 1 Q2
abbrev Q5:=pw 2 Q2
abbrev Q6:=pw 3 Q2
abbrev Q7:=lC Qx
abbrev Q8:=k0 Qx
abbrev Q9:=lC Qt
abbrev Qba:=k0 Qt
abbrev wW (l:List V):=Qa::Qf::Qb::l
abbrev Qbb:=ou (wW [])
abbrev Nb:=mk Qm
abbrev Qbd:V:=.ei (.i 4)
abbrev FV a0 a1 a2:=stx a0 (cn a1 a2)
abbrev zw a0 a1 a2 a3 a4:=FV a0 a1 (FV a2 a3 a4)
abbrev Qbe:=zw Qb Nb Qs Qbd Qt
abbrev S2:V:=.ei (.i 5)
abbrev qB a0 a1 a2 a3 a4 a5:=zw a0 a1 (el a2 a3) a4 a5
abbrev Qbg:=qB Qbe Nb Qbe Qm S2 Qx
abbrev Vs:=cn S2 Qh
abbrev nY a0 a1 a2 a3:=FV a0 a1 (stx a2 a3)
abbrev jO a0 a1 a2 a3 a4:=nY a0 a1 (el a2 a3) a4
abbrev Qbi:=jO Qbe Nb Qbe Qm Vs
abbrev Vr:=cn S2 Qk
abbrev Qbk:=jO Qbe Nb Qbe Qm Vr
abbrev Qbl:=cn Qbd Qh
abbrev Qbm:=nY Qb Nb Qs Qbl
abbrev Qbn:=qB Qbm Nb Qbm Qm S2 Qx
abbrev Qbo:=jO Qbm Nb Qbm Qm Vs
abbrev Qbp:=jO Qbm Nb Qbm Qm Vr
abbrev Qbq:=cn Qbd Qk
abbrev Qbr:=nY Qb Nb Qs Qbq
abbrev Qbs:=qB Qbr Nb Qbr Qm S2 Qx
abbrev Qbt:=jO Qbr Nb Qbr Qm Vs
abbrev Qbu:=jO Qbr Nb Qbr Qm Vr
abbrev iF a0 a1 a2 a3 a4 a5:=jn a0 (cZ a1 a2 a3 a4 a5)
abbrev eW a0 a1 a2 a3 a4 a5 a6:=iF a0 a1 a2 a3 (ju a4 a5) a6
abbrev mS a0 a1:=ez Qz a0 a1
abbrev mR a0 a1:=ez Q8 a0 a1
abbrev qf a0 a1 a2 a3:=sp a0 (tK a1 a2) a3
abbrev ID (l:List V):=Qf::Qb::Qo::Q1::Q3::Q4::Q5::Q6::l
def rD:=cZ Qn (qf Qp Qq (iF Qr Qu (eW Qw Qy (mS 9004 (ID [Qt,Qx])) Q7 9005 (ID [Qt,Qh]) (mR 9005 (ID [Qt,Qk]))) Q9 (rU Qy (mS 9006 (ID [Qh,Qx])) Q7 9007 (ID [Qh,Qh]) (mR 9007 (ID [Qh,Qk]))) (eW Qba Qy (mS 9006 (ID [Qk,Qx])) Q7 9007 (ID [Qk,Qh]) (mR 9007 (ID [Qk,Qk])))) Qbb) Qp (tK Qq (iF Qr Qu (eW Qw Qy (mS 9001 [Qf,Qbg,Qo,Q1]) Q7 9001 [Qf,Qbi,Qo,Q1] (mR 9001 [Qf,Qbk,Qo,Q1])) Q9 (rU Qy (mS 9001 [Qf,Qbn,Qo,Q1]) Q7 9001 [Qf,Qbo,Qo,Q1] (mR 9001 [Qf,Qbp,Qo,Q1])) (eW Qba Qy (mS 9001 [Qf,Qbs,Qo,Q1]) Q7 9001 [Qf,Qbt,Qo,Q1] (mR 9001 [Qf,Qbu,Qo,Q1])))) Qbb
abbrev Qbv:=jd Qa Qf
abbrev gJ a0 a1 a2:=sp a0 (ou a1) a2
def abG:=gJ Qbv [Q0,Qf] (ou [Q0,Qf])
abbrev oq:V:=.lit 2
def abF:=gJ Qbv [oq,Qf] (ou [oq,Qf])
abbrev Qbx:=tK Qq (jn Qr fl)
abbrev sj:V:=.lit 3
abbrev c9:V:=.dG 4
abbrev ek:V:=.dG 5
abbrev eN:V:=.dG 6
abbrev gr:V:=.dG 7
abbrev jc:V:=.dG 8
abbrev mH:V:=.dG 9
abbrev Qb5:=ou [sj,Qf,Qb,c9,ek,eN,gr,jc,mH]
abbrev Qb6:=[Qf,Qbg,Qo,Q1,c9,ek,eN,gr,jc,mH]
abbrev Qb7:=[Qf,Qbi,Qo,Q1,c9,ek,eN,gr,jc,mH]
abbrev Qb8:=[Qf,Qbk,Qo,Q1,c9,ek,eN,gr,jc,mH]
abbrev Qb9:=[Qf,Qbn,Qo,Q1,c9,ek,eN,gr,jc,mH]
abbrev Qca:=[Qf,Qbo,Qo,Q1,c9,ek,eN,gr,jc,mH]
abbrev Qcb:=[Qf,Qbp,Qo,Q1,c9,ek,eN,gr,jc,mH]
abbrev Qcc:=[Qf,Qbs,Qo,Q1,c9,ek,eN,gr,jc,mH]
abbrev Qcd:=[Qf,Qbt,Qo,Q1,c9,ek,eN,gr,jc,mH]
abbrev Qce:=[Qf,Qbu,Qo,Q1,c9,ek,eN,gr,jc,mH]
abbrev oC a0 a1 a2 a3 a4 a5 a6:=cZ a0 (sp a1 a2 a3) a4 a5 a6
def Wc:=oC Qn Qp Qbx Qb5 Qp (tK Qq (iF Qr Qu (eW Qw Qy (mS 9004 Qb6) Q7 9004 Qb7 (mR 9004 Qb8)) Q9 (rU Qy (mS 9004 Qb9) Q7 9004 Qca (mR 9004 Qcb)) (eW Qba Qy (mS 9004 Qcc) Q7 9004 Qcd (mR 9004 Qce)))) Qb5
abbrev Bj:V:=.lit 4
abbrev Qcg:=ou [Bj,Qf,Qb,c9,ek,eN,gr,jc,mH]
def Wb:=oC Qn Qp Qbx Qcg Qp (tK Qq (iF Qr Qu (eW Qw Qy (mS 9005 Qb6) Q7 9005 Qb7 (mR 9005 Qb8)) Q9 (rU Qy (mS 9005 Qb9) Q7 9005 Qca (mR 9005 Qcb)) (eW Qba Qy (mS 9005 Qcc) Q7 9005 Qcd (mR 9005 Qce)))) Qcg
abbrev PD:V:=.lit 5
abbrev Qci:=ou [PD,Qf,Qb,c9,ek,eN,gr,jc,mH]
def Wa:=oC Qn Qp Qbx Qci Qp (tK Qq (iF Qr Qu (eW Qw Qy (mS 9006 Qb6) Q7 9006 Qb7 (mR 9006 Qb8)) Q9 (rU Qy (mS 9006 Qb9) Q7 9006 Qca (mR 9006 Qcb)) (eW Qba Qy (mS 9006 Qcc) Q7 9006 Qcd (mR 9006 Qce)))) Qci
abbrev M9:V:=.lit 6
abbrev Qck:=ou [M9,Qf,Qb,c9,ek,eN,gr,jc,mH]
def V9:=oC Qn Qp Qbx Qck Qp (tK Qq (iF Qr Qu (eW Qw Qy (mS 9007 Qb6) Q7 9007 Qb7 (mR 9007 Qb8)) Q9 (rU Qy (mS 9007 Qb9) Q7 9007 Qca (mR 9007 Qcb)) (eW Qba Qy (mS 9007 Qcc) Q7 9007 Qcd (mR 9007 Qce)))) Qck
abbrev S1:=ln Qo
abbrev Qcm:=pH S1 2199023255552
abbrev Qcn:=lC (pC Qo)
abbrev Qco:=[Qf,Qc,Qa,Qb]
abbrev Qcp:=k0 (pC Qo)
def rC:=cZ Qd (eW Qe (pD S1) (ez Qcm 9051 [Qf,Qc,Qa,Qb,Qo]) Qcn 9052 Qco (ez Qcp 9053 Qco)) Qi (rU (pD S1) (ez Qcm 9054 [Qf,Qo]) Qcn 9055 Qj (ez Qcp 9056 Qj)) (eW Ql (pD S1) (ez Qcm 9057 [Qf,Qo]) Qcn 9058 Qj (ez Qcp 9059 Qj))
abbrev wR:=gZ Qo Qb
abbrev Kd:=wY Qo
abbrev Ce:=ln Qm
abbrev UW:=gZ Qo Ce
abbrev Vq:=el Qm Qo
abbrev J?:=ce 4 Vq
abbrev Qcw:=mV J?
abbrev Qcx:=mU J?
abbrev Qcy:=ce 5 Vq
abbrev Qcz:=mV Qcy
abbrev Qc0:=mU Qcy
abbrev UX:=kZ Qo
abbrev ya:=mk Qo
abbrev Qc3:=zw Qm ya Vq Qbd J?
abbrev Qc4:=qB Qc3 ya Qc3 Qo S2 Qcy
abbrev Qc5:=lC Qcy
abbrev Qc6:=jO Qc3 ya Qc3 Qo Vs
abbrev Qc7:=k0 Qcy
abbrev Qc8:=jO Qc3 ya Qc3 Qo Vr
abbrev Qc9:=nY Qm ya Vq Qbl
abbrev Qda:=qB Qc9 ya Qc9 Qo S2 Qcy
abbrev Qdb:=jO Qc9 ya Qc9 Qo Vs
abbrev Qdc:=jO Qc9 ya Qc9 Qo Vr
abbrev Qdd:=nY Qm ya Vq Qbq
abbrev Qde:=qB Qdd ya Qdd Qo S2 Qcy
abbrev Qdf:=jO Qdd ya Qdd Qo Vs
abbrev Qdg:=jO Qdd ya Qdd Qo Vr
abbrev UU:=ln c9
abbrev pq (l:List V):=Qf::Qb::UX::l
abbrev gg a0 a1 a2:=ez a0 a1 (pq a2)
abbrev nV a0 a1:=ju a0 (pq a1)
abbrev pA a0 a1 a2 a3 a4:=qf a0 a1 a2 (ju a3 a4)
def V8:=pA wR Kd (iF UW Qcw (eW Qcx Qcz (gg Qc0 9051 [Qc4,c9]) Qc5 9051 (pq [Qc6,c9]) (gg Qc7 9051 [Qc8,c9])) (lC J?) (cZ Qcz (gg Qc0 9051 [Qda,c9]) Qc5 (nV 9051 [Qdb,c9]) (gg Qc7 9051 [Qdc,c9])) (eW (k0 J?) Qcz (gg Qc0 9051 [Qde,c9]) Qc5 9051 (pq [Qdf,c9]) (gg Qc7 9051 [Qdg,c9]))) 9060 [Qf,UU,Qa,Qm,c9]
def V7:=pA wR Kd (iF UW Qcw (eW Qcx Qcz (gg Qc0 9052 [Qc4]) Qc5 9052 (pq [Qc6]) (gg Qc7 9052 [Qc8])) (lC J?) (cZ Qcz (gg Qc0 9052 [Qda]) Qc5 (nV 9052 [Qdb]) (gg Qc7 9052 [Qdc])) (eW (k0 J?) Qcz (gg Qc0 9052 [Qde]) Qc5 9052 (pq [Qdf]) (gg Qc7 9052 [Qdg]))) 9061 [Qf,Qm]
def V6:=pA wR Kd (iF UW Qcw (eW Qcx Qcz (gg Qc0 9053 [Qc4]) Qc5 9053 (pq [Qc6]) (gg Qc7 9053 [Qc8])) (lC J?) (cZ Qcz (gg Qc0 9053 [Qda]) Qc5 (nV 9053 [Qdb]) (gg Qc7 9053 [Qdc])) (eW (k0 J?) Qcz (gg Qc0 9053 [Qde]) Qc5 9053 (pq [Qdf]) (gg Qc7 9053 [Qdg]))) 9062 [Qf,Qm]
def abE:=ju 9063 Qco
def ahJ:=ju 9064 Qj
def ahI:=ju 9065 Qj
def abD:=ju 9066 Qco
def ahH:=ju 9067 Qj
def ahG:=ju 9068 Qj
abbrev Qdi:=jd Qo Qf
abbrev z?:=gZ Qo UU
abbrev Qdk:=el c9 Qo
abbrev Qdl:=ce 1 Qdk
abbrev Qdm:=mV Qdl
abbrev Qdn:=mU Qdl
abbrev Qdo:=el c9 Qf
abbrev Qdp:=jL Qdo
abbrev Qdq:=pw 2 Qdo
abbrev Qdr:=pw 3 Qdo
abbrev Qds:=pw 4 Qdo
abbrev Qdt:=pw 5 Qdo
abbrev Qdu:=lC Qdl
abbrev Qdv:=k0 Qdl
abbrev Qdw:=zw c9 ya Qdk Qh Qdl
abbrev Qdx:=cn Qh Qh
abbrev Qdy:=nY c9 ya Qdk Qdx
abbrev Qdz:=cn Qh Qk
abbrev Qd0:=nY c9 ya Qdk Qdz
abbrev mT a0:=tK Kd a0
abbrev rY a0 a1 a2 a3:=qf a0 a1 a2 (ou a3)
abbrev RQ a0 a1 a2:=rY a0 Kd a1 a2
abbrev tT a0 a1:=RQ wR a0 a1
def Bp:=cZ Qdi (tT (eW z? Qdm (gg Qdn 9069 [Qm,c9,Qdp,Qdl,Qdq,Qdr,Qds,Qdt]) Qdu 9070 (pq [Qm,c9,Qdp,Qh,Qdq,Qdr,Qds,Qdt]) (gg Qdv 9070 [Qm,c9,Qdp,Qk,Qdq,Qdr,Qds,Qdt])) [Qa,Qf,Qm,c9]) wR (mT (eW z? Qdm (gg Qdn 9060 [Qm,Qdw]) Qdu 9060 (pq [Qm,Qdy]) (gg Qdv 9060 [Qm,Qd0]))) (ou [Qa,Qf,Qm,c9])
abbrev Qd1:=ou [Q0,Qf,Qb]
def abC:=sp Qbv Qd1 Qd1
def abB:=gJ Qbv [oq,Qf,Qb] (ou [oq,Qf,Qb])
abbrev Qd2:=ce 1 Vq
abbrev Qd3:=mV Qd2
abbrev Qd4:=mU Qd2
abbrev Qd5:=el Qm Qf
abbrev Qd6:=jL Qd5
abbrev Qd7:=pw 2 Qd5
abbrev Qd8:=pw 3 Qd5
abbrev Qd9:=pw 4 Qd5
abbrev Qea:=pw 5 Qd5
abbrev Qeb:List V:=pq [Qm,Qd6,Qd2,Qd7,Qd8,Qd9,Qea]
abbrev Qec:=lC Qd2
abbrev Qed:List V:=pq [Qm,Qd6,Qh,Qd7,Qd8,Qd9,Qea]
abbrev Qee:=k0 Qd2
abbrev Qef:List V:=pq [Qm,Qd6,Qk,Qd7,Qd8,Qd9,Qea]
abbrev Qeg:=zw Qm ya Vq Qh Qd2
abbrev Qeh:=nY Qm ya Vq Qdx
abbrev Qei:=nY Qm ya Vq Qdz
def Bo:=cZ Qdi (tT (eW UW Qd3 (ez Qd4 9071 Qeb) Qec 9072 Qed (ez Qee 9072 Qef)) [Qa,Qf,Qh,Qm]) wR (mT (eW UW Qd3 (gg Qd4 9063 [Qeg]) Qec 9063 (pq [Qeh]) (gg Qee 9063 [Qei]))) (ou [Qa,Qf,Qh,Qm])
def abA:=gJ Qbv [Q0,Qf,Qh] (ou [Q0,Qf,Qh])
def abz:=gJ Qbv [oq,Qf,Qh] (ou [oq,Qf,Qh])
def Bn:=cZ Qdi (tT (eW UW Qd3 (ez Qd4 9073 Qeb) Qec 9074 Qed (ez Qee 9074 Qef)) [Qa,Qf,Qk,Qm]) wR (mT (eW UW Qd3 (gg Qd4 9066 [Qeg]) Qec 9066 (pq [Qeh]) (gg Qee 9066 [Qei]))) (ou [Qa,Qf,Qk,Qm])
def aby:=gJ Qbv [Q0,Qf,Qk] (ou [Q0,Qf,Qk])
def abx:=gJ Qbv [oq,Qf,Qk] (ou [oq,Qf,Qk])
abbrev Qej:=mT (jn z? fl)
abbrev rm:V:=.dG 10
abbrev Qel:=ou [sj,Qf,Qm,c9,ek,eN,gr,jc,mH,rm]
abbrev Qem:List V:=pq [Qm,Qdw,ek,eN,gr,jc,mH,rm]
abbrev Qen:List V:=pq [Qm,Qdy,ek,eN,gr,jc,mH,rm]
abbrev Qeo:List V:=pq [Qm,Qd0,ek,eN,gr,jc,mH,rm]
def V5:=oC Qdi wR Qej Qel wR (mT (eW z? Qdm (ez Qdn 9069 Qem) Qdu 9069 Qen (ez Qdv 9069 Qeo))) Qel
abbrev Qep:=ou [Bj,Qf,Qm,c9,ek,eN,gr,jc,mH,rm]
def V4:=oC Qdi wR Qej Qep wR (mT (eW z? Qdm (ez Qdn 9070 Qem) Qdu 9070 Qen (ez Qdv 9070 Qeo))) Qep
abbrev Qeq:=mT (jn UW fl)
abbrev Qer:=ou [sj,Qf,Qh,Qm,c9,ek,eN,gr,jc,mH]
abbrev Qes:List V:=pq [Qeg,c9,ek,eN,gr,jc,mH]
abbrev Qet:List V:=pq [Qeh,c9,ek,eN,gr,jc,mH]
abbrev Qeu:List V:=pq [Qei,c9,ek,eN,gr,jc,mH]
def V3:=oC Qdi wR Qeq Qer wR (mT (eW UW Qd3 (ez Qd4 9071 Qes) Qec 9071 Qet (ez Qee 9071 Qeu))) Qer
abbrev Qev:=ou [Bj,Qf,Qh,Qm,c9,ek,eN,gr,jc,mH]
def V2:=oC Qdi wR Qeq Qev wR (mT (eW UW Qd3 (ez Qd4 9072 Qes) Qec 9072 Qet (ez Qee 9072 Qeu))) Qev
abbrev Qew:=ou [sj,Qf,Qk,Qm,c9,ek,eN,gr,jc,mH]
def V1:=oC Qdi wR Qeq Qew wR (mT (eW UW Qd3 (ez Qd4 9073 Qes) Qec 9073 Qet (ez Qee 9073 Qeu))) Qew
abbrev Qex:=ou [Bj,Qf,Qk,Qm,c9,ek,eN,gr,jc,mH]
def V0:=oC Qdi wR Qeq Qex wR (mT (eW UW Qd3 (ez Qd4 9074 Qes) Qec 9074 Qet (ez Qee 9074 Qeu))) Qex
abbrev qi:=ln Qf
def t100:=ju 101 [pI qi Qc,Qc,Qa,Qf,Qb]
abbrev mf:=ou [Q0]
abbrev gE:=ou [Qa]
abbrev nW a0 a1:=gZ (.lit a0) a1
def t101:=cZ wR (mT (ez z? 102 [pI Qf (pI (ln Qdl) (ln (ce 2 Qdk))),Qo,Qa,Qb,Qm,c9])) (nW 6000 Qf) mf gE
abbrev PC:=wY Qb
abbrev qb:=kZ Qb
abbrev Qe3:=ju 101 [Qf,Qm,qb,c9,ek]
abbrev Qe4:=ce 6 (el (ce 2 (el ek Qb)) Qo)
abbrev dK a0 a1 a2 a3:=jn a0 (sp a1 a2 a3)
abbrev sJ (l:List V):=Qf::Qb::Qo::l
def t102:=tK PC (dK (ic Qb ek) (ic Qo (ce 2 (el ek Qb))) (sp (nW 6000 Qf) Qe3 (mT (ju 103 (sJ [Qm,Qe4,ln Qe4,Qa,c9,ek])))) Qe3)
abbrev Qe5:=wY eN
abbrev Qe6:=el c9 eN
abbrev Qe7:=[jL Qe6,ce 1 Qe6,pw 2 Qe6,ce 3 Qe6,.lit 60]
abbrev dY a0 a1:=rr a0 a1 0
def t103:=qf (gZ eN ek) Qe5 (jn (gZ eN UU) (rq 150 Qe7 (ju 103 [pI Qf (dY 150 Qe7),Qb,Qo,Qm,c9,ek,kZ eN,gr,jc]))) (nV 102 [Qm,gr,jc])
abbrev Qe8:=gZ c9 Q0
def t150:=gJ Qe8 [.lit 10000] (ju 151 [c9,pI Q0 (wr (.quo Qc (.lit 100))),Qa,Qf,Qb,Qo,Qm])
abbrev H5:=ln eN
abbrev Qfa:=el eN Qo
abbrev rX a0 a1:=wr (.sub a0 a1)
abbrev Qfb:=[jL Qfa,ce 1 Qfa,pw 2 Qfa,ce 3 Qfa,rX Qf Q0]
def t151:=sp (gZ Qo H5) (gJ (nW 10000 Qb) [Qb] (mT (rq 150 Qfb (ju 151 [Qf,pI Qb (dY 150 Qfb),UX,Qm,c9,ek,eN])))) (ou [Qb])
abbrev kj a0 a1:=sp a0 a1 gE
def t250:=kj (jd qi Qc) (ju 251 [Qf,Qb,Qa])
abbrev qE a0:=gZ a0 qi
abbrev H4:=qE Qo
abbrev Qfd:=gZ Qo Qc
abbrev MM:=el Qf Qo
abbrev jA a0 a1:=nm (el a0 a1)
def t251:=qf H4 Kd (dK Qfd (jd (nm MM) (jA Qb Qo)) (nV 251 []) gE) mf
abbrev C7:=[Qf,Qb]
abbrev Qfg:=CH 450 C7
abbrev qg a0 a1 a2:=qa (rr a0 a1 a2)
abbrev ib a0 a1:=qg a0 a1 0
abbrev Qfh:=ib 450 C7
abbrev SZ:=ou [Qh]
def Q!:=dK Qfg Qfh (ju 301 [Qf,qi]) SZ
abbrev Qfj:=pD Qb
abbrev Qfk:=pD qi
abbrev Vp:=el Qf Qa
abbrev Qfm:=jL Vp
abbrev vc:=D.i 0
abbrev jU:V:=.ei vc
abbrev y?:V:=.ei (.i (-1))
abbrev Qfp:=mk (pw 2 Vp)
abbrev Cj a0 a1 a2:=cn a0 (cn a1 a2)
abbrev ua a0 a1 a2 a3 a4:=Cj a0 a1 (Cj a2 a3 a4)
abbrev kg a0 a1 a2 a3:=ua a0 a1 a2 a3 jU
abbrev Qfq:=kg jU jU Qh Qh
abbrev k8 a0 a1 a2 a3:=NJ a0 (Cj a1 a2 a3)
abbrev Qfr:=ju 302 [k8 jU y? Qfp Qfq,Qf,Qb,Q0]
abbrev y!:V:=.lit 9
def Ti:=sp Qfj (iF Qfk (jd Qfm sj) Qfr (jd Qfm y!) Qfr (ju 302 [k8 jU y? jU Qfq,Qf,Qb,Q0])) SZ
abbrev Qft:=jL Qs
abbrev Qfu:=pH qi 1759218604440
abbrev Qfv:=pw 2 Qs
abbrev Qfw:=ez Qfu 302 [k8 Qf y? (mk Qfv) Qfq,Qb,Qo,Q1]
def aeK:=rY Qp Qq (iF Qr (jd Qft sj) Qfw (jd Qft y!) Qfw (ez Qfu 302 [k8 Qf y? jU Qfq,Qb,Qo,Q1])) Qj
def Q':=dK Qfg Qfh (kj (jd S1 qi) (ju 351 [Qo,S1,Qa,Qf,Qb])) gE
abbrev Qfx:=pw 2 MM
abbrev y_:=jL MM
abbrev Kb:=ce 1 MM
abbrev z!:=ce 3 MM
abbrev S0:=ce 4 MM
abbrev Kc:=ce 5 MM
abbrev acf (l:List V):=(pw 0 Vq)::Qd2::(pw 2 Vq)::(ce 3 Vq)::(nm J?)::y_::(nm Kb)::l
abbrev Qf3:List V:=acf [Qa,nm z!,S0,Kc,UU]
abbrev Qf4:=nV 351 [Qm,c9]
abbrev Qf5:List V:=acf [Q0,nm z!,S0,Kc,UU]
abbrev k7 a0 a1 a2 a3 a4:=jn a0 (dK a1 a2 a3 a4)
abbrev ta a0 a1 a2 a3 a4:=rq a0 a1 (sp a2 a3 a4)
abbrev lZ a0 a1 a2 a3 a4 a5 a6:=ta a0 a1 (qg a2 a3 a4) a5 a6
abbrev jz a0 a1 a2 a3 a4 a5:=lZ a0 a1 a2 a3 0 a4 a5
abbrev oB a0 a1 a2 a3 a4:=jz a0 a1 a2 a3 gE a4
def Tf:=qf wR Kd (k7 H4 UW (qa Qfx) (oB 500 Qf3 500 Qf3 Qf4) (oB 500 Qf5 500 Qf5 Qf4)) mf
abbrev Qf6:=[ek,Qo]
abbrev Qf7:=dY 9000 Qf6
abbrev z_:=wY ek
abbrev Qf9:=CH 350 (sJ [])
abbrev Qga:=ib 350 (sJ [])
abbrev kf a0 a1:=rr a0 a1 2
abbrev H3:=kf 9000 Qf6
abbrev Qgc:=ou [H3,Qa,Qa,Qa,Qa,Qa,Qa]
abbrev Qgd:=dK Qf9 Qga Qgc (cZ Qq Qgc Qr Qgc Qgc)
abbrev Qge:=ic ek H3
abbrev Qgf:=ou [Qh,Qa,Qa,Qa,Qa,Qa,Qa]
abbrev Qgg:=ou [Qk,Qa,Qa,Qa,Qa,Qa,Qa]
abbrev x!:=mk ek
abbrev Qgi:=rr 9000 Qf6 3
abbrev Km:=mk Qgi
abbrev ML:=rr 9000 Qf6 4
abbrev M7:=mk ML
abbrev Qgm:=rr 9000 Qf6 5
abbrev qC a0 a1:=V.op a0 a1 Qa
abbrev SY:=qC .bit (mk Qgm)
abbrev Qgo:=rr 9000 Qf6 6
abbrev SX:=mk Qgo
abbrev Ka:=rr 9000 Qf6 7
abbrev Vo:=rr 9000 Qf6 8
abbrev Vn:=cn Vo jU
abbrev Qgt:=cn SY (Cj SX Ka Vn)
abbrev Qgu:=cn x! (Cj Km M7 Qgt)
abbrev Qgv:=stx H3 Qgu
abbrev C6:=ou [Qgv,Qa,Qa,Qa,Qa,Qa,Qa]
abbrev Qgx:=CH 600 [c9]
abbrev Qgy:=qE ek
abbrev pG a0 a1 a2:=pw a0 (el a1 a2)
abbrev Qgz:=jd (dY 600 [c9]) (pG 0 Qf ek)
abbrev tY a0:=jd a0 Q0
abbrev Qg0:=tY c9
abbrev x?:=jd Qgi Qm
abbrev Cc:=rq 550 [Qo] (ou [dY 550 [Qo],Qm,.lit 27,ek,wr c9,Qa,oq])
abbrev Qg3:=CH 900 [Ka,Qm]
abbrev Qg4:=ib 900 [Ka,Qm]
abbrev Qg5:=wY Qgi
abbrev qD a0 a1 a2 a3 a4:=FV a0 a1 (Cj a2 a3 a4)
abbrev Qg6:=qD H3 x! Nb M7 Qgt
abbrev M8:=rq 550 [Qo] (ou [dY 550 [Qo],Qa,Qa,Qa,Qa,Qa,Qa])
abbrev Qg8:=gJ Qg5 [Qg6,Qm,c9,ek,Qa,Qa,oq] M8
abbrev Qg9:=sp x? Cc (dK Qg3 Qg4 Qg8 Cc)
abbrev tX a0:=jd c9 a0
abbrev Qha:=tX oq
abbrev Qhb:=gJ x? [qD H3 x! y? M7 Qgt,Qm,c9,ek,Qa,Qa,oq] Cc
abbrev xd a0:=tX (.lit a0)
abbrev Qhc:=xd 8
abbrev Qhd:=tX sj
abbrev Qhe:=ou [Qg6,Qm,c9,ek,Q0,Qa,oq]
abbrev Qhf:=ou [Qgv,Qm,c9,ek,Qa,Qa,oq]
abbrev Qhg:=sp Qg5 Qhe Qhf
abbrev Qhh:=tX Bj
abbrev Qhi:=cZ Qg5 Qhe (gZ gr eN) M8 Qhf
abbrev Qhj:=tX PD
abbrev F1:=ln Ka
abbrev Qhl:V:=.lit 17592186044415
abbrev Qhm:=ua M7 SY SX (NJ Ka Nb) Vn
abbrev ajV a0 a1 a2 a3:=stx a0 (Cj a1 a2 a3)
abbrev LP a0 a1 a2:=ajV a0 x! a1 a2
abbrev va a0 a1:=LP H3 a0 a1
abbrev Qhn:=sp x? Cc (dK Qg3 Qg4 (sp Qg5 (jn (gZ F1 Qhl) (ou [va Km Qhm,Qm,c9,ek,Qa,Qa,oq])) M8) Cc)
abbrev Qho:=tX M9
abbrev Qhp:=CH 850 [Ka,Qm]
abbrev Qhq:=dY 850 [Ka,Qm]
abbrev Qhr:=kZ Qhq
abbrev Qhs:V:=.sub F1 Qhr
abbrev J!:V:=.add Qhq Qhs
abbrev nX a0 a1 a2 a3 a4:=V.op a0 (.op a1 a2 a3) a4
abbrev Qhu:V:=.op .cat (nX .cat .take Ka Qhq (nX .drop .take Ka (.add Qhr Qhs) Qhr)) (.op .drop Ka J!)
abbrev Qhv:V:=.op .fill Qhu (cn (mk J!) jU)
abbrev lY a0 a1:=tK (wY a0) a1
abbrev Hk a0 a1 a2:=tK (mX a0 a1) a2
abbrev xb a0 a1 a2:=Hk a0 a1 (ou a2)
abbrev BR a0 a1:=V.op .take a0 a1
abbrev Qhw:=lY (.sub F1 J!) (jn (jd (.add J! (.sub F1 J!)) (ln Qhu)) (xb Qhv J! [va Km (ua M7 SY SX (BR Qhv J!) Vn),Qm,c9,ek,Qa,Qa,oq]))
abbrev nU a0 a1 a2:=tK (gZ a0 a1) a2
abbrev qF a0 a1 a2 a3:=sp (jd a0 a1) a2 a3
abbrev Qhx:=dK Qhp (wY Qhq) Cc (nU Qhr Qhq (nU F1 Qhr (nU F1 F1 (qF Qhq Qhr Qhf (nU F1 Qhq (lY Qhr (lY Qhs (nU F1 (.add Qhr Qhs) (nU F1 J! (lY J! (qf (gZ J! F1) (mX Qhu F1) Qhw Qhw)))))))))))
abbrev x_:V:=.lit 7
abbrev Qhz:=tX x_
abbrev pF a0 a1 a2:=sp (qa a0) a1 a2
abbrev Qh0:=sp x? Cc (dK Qg3 Qg4 (pF F1 Qg8 M8) Cc)
abbrev Qh1:=tX y!
abbrev Qh2:=qD H3 x! Km (mk (rX ML Q0)) Qgt
abbrev Qh3:=gJ (pD ML) [Qh2,Qm,c9,ek,Qa,Qa,oq] M8
abbrev Qh4:=xd 11
abbrev Qh5:=gJ (pD ML) [Qh2,Qm,c9,ek,Q0,Qa,oq] Qhf
abbrev Qh6:V:=.lit 10
abbrev Qh7:=tX Qh6
abbrev SW:=pG 2 Qf ek
abbrev Qh9:=qD H3 x! Km (mk (kZ ML)) Qgt
abbrev Qia:=gJ (gZ ML SW) [Qh9,Qm,c9,ek,Qa,Qa,oq] Cc
abbrev Qib:=xd 17
abbrev Qic:=cZ (gZ eN (rX Qa ML)) Cc (gZ (rX (.lit 1099511627776) ML) eN) Cc (ou [qD H3 x! Km (mk (pI ML eN)) Qgt,Qm,c9,ek,pI ML eN,Qa,oq])
abbrev Qid:=xd 18
abbrev Qie:=gJ (pD ML) [Qh2,Qm,c9,ek,rX ML Q0,Qa,oq] Cc
abbrev Qif:=xd 19
abbrev Qig:=pF ML Qhf M8
abbrev Qih:=xd 22
abbrev Qii:=ou [Qgv,Qm,c9,ek,ML,Qa,oq]
abbrev Qij:=xd 23
abbrev Qik:=ou [qD H3 x! Km (mk eN) Qgt,Qm,c9,ek,eN,Qa,oq]
abbrev Qil:V:=.lit 20
abbrev Qim:=tX Qil
abbrev Qin:=sp (mX Vo SW) (jn (mX Vo Qhl) (ou [qD H3 x! Km M7 (kg SY SX Ka (NJ Vo (mk eN))),Qm,c9,ek,eN,Qa,oq])) M8
abbrev Qio:=xd 21
abbrev Qip:V:=.add Q0 (.sub (ln Vo) Q0)
abbrev Qiq:=pF (ln Vo) M8 (lY (.sub (ln Vo) Q0) (xb Vo Qip [qD H3 x! Km M7 (kg SY SX Ka (nX .drop .take Vo Qip Q0)),Qm,c9,ek,jA Vo Qa,Qa,oq]))
abbrev Qir:=xd 12
abbrev Qis:=wY SW
abbrev Qit:=ic SW H3
abbrev Qiu:=jd SW ek
abbrev SU:V:=.lit (-1)
abbrev SS:=[Ka,Qm,ek,SW,H3,c9,eN,gr,SU,ML,Qgm,Qgo,Vo]
abbrev Qix:=jn (gZ F1 Qhl) (ou [va y? Qhm,Qm,c9,ek,Qa,Qa,sj])
abbrev Qiy:=rr 12000 SS 14
abbrev Qiz:=rr 12000 SS 15
abbrev Qi0:V:=.add Qiy Q0
abbrev Qi1:=NJ jU Nb
abbrev Qi2:V:=.op .cat (nX .cat .take Qiz Qiy Qi1) (.op .drop Qiz Qi0)
abbrev Qi3:=pG 0 H3 SW
abbrev Qi4:=jd Qi3 Qm
abbrev Qi5:=qB H3 (mk SW) H3 SW jU y?
abbrev SV:=[Ka,Qm,ek,SW,Qi5,c9,eN,gr,Qgi,ML,Qgm,Qgo,Vo]
abbrev Qi7:=jn (gZ F1 Qhl) (ou [LP Qi5 Km Qhm,Qm,c9,ek,Qa,Qa,sj])
abbrev Qi8:=rr 12000 SV 14
abbrev Qi9:=rr 12000 SV 15
abbrev Qja:V:=.add Qi8 Q0
abbrev Qjb:V:=.op .cat (nX .cat .take Qi9 Qi8 Qi1) (.op .drop Qi9 Qja)
abbrev Qjc:=va Km (ua M7 SY SX Qh Vn)
abbrev J':V:=.lit 24
abbrev Qje:V:=.lit 4611686018427387904
abbrev Qjf:V:=.lit 25
abbrev M6:V:=.lit 16
abbrev pz a0 a1 a2 a3 a4 a5:=cZ a0 a1 (jd a2 a3) a4 a5
abbrev gR a0 a1 a2 a3 a4 a5 a6:=pz (jd a0 a1) a2 a3 a4 a5 a6
abbrev tU a0 a1 a2 a3 a4 a5 a6:=gR a0 a1 a2 a3 (.lit a4) a5 a6
abbrev Qjh:=tU c9 J' (tK Qis (k7 Qit Qg3 Qg4 (cZ Qiu Qg8 (wY Qi3) (ou [stx (qB H3 (mk SW) H3 SW jU Nb) Qgu,Qm,c9,ek,Qa,Qa,oq]) M8) M8)) c9 15 (sp (gZ Qgo Qje) (gJ (jd (kZ ML) SW) [va Km (ua jU SY (mk (kZ Qgo)) Ka Vn),Qm,c9,ek,Qgo,Qa,sj] (ou [Qh9,Qm,c9,ek,Qgo,Qa,sj])) Cc) (gR c9 Qjf (gJ (gZ eN Qgo) [Qgv,Qm,c9,ek,eN,Qa,oq] M8) c9 M6 (pF Qgm (cZ x? Cc Qg5 Qhe M8) Qhf) (dK (xd 26) x? (ou [va y? (ua M7 Qh SX Ka Vn),Qm,c9,ek,Qa,Qa,oq]) Cc))
abbrev Qji:=tU c9 (.lit 13) (pF F1 Qhf (lY (.sub F1 Q0) (nU F1 (.add Q0 (.sub F1 Q0)) (ou [va Km (ua M7 SY SX (nX .drop .take Ka (.add Q0 (.sub F1 Q0)) Q0) Vn),Qm,c9,ek,kZ (jA Ka Qa),Qa,oq])))) c9 14 (ou [Qjc,Qm,c9,ek,F1,Qa,oq]) Qjh
abbrev Qjj:=gJ (pD SW) [qD H3 x! Km M7 (kg SY SX Ka (NJ jU (mk eN))),Qm,c9,ek,eN,Qa,oq] M8
abbrev Qjk:=rr 12100 SS 14
abbrev Qjl:=rr 12100 SS 15
abbrev Qjm:V:=.add Qjk Q0
abbrev Qjn:V:=.op .cat (nX .cat .take Qjl Qjk Qi1) (.op .drop Qjl Qjm)
abbrev Qjo:=rr 12100 SV 14
abbrev Qjp:=rr 12100 SV 15
abbrev Qjq:V:=.add Qjo Q0
abbrev Qjr:V:=.op .cat (nX .cat .take Qjp Qjo Qi1) (.op .drop Qjp Qjq)
abbrev Qjs:=ua M7 SY SX Qi1 Vn
abbrev Qjt:=sp x? Cc (dK Qg3 Qg4 (gJ Qg5 [va Km Qjs,Qm,c9,ek,Qa,Qa,oq] M8) Cc)
abbrev Qju:=jn Qhp (jn (wY Qhq) Cc)
abbrev Qjv:=ou [va y? Qjs,Qm,c9,ek,Qa,Qa,sj]
abbrev Qjw:=ou [LP Qi5 Km Qjs,Qm,c9,ek,Qa,Qa,sj]
abbrev Qjx:=tU c9 (.lit 13) Qhf c9 14 (ou [Qjc,Qm,c9,ek,Qa,Qa,oq]) Qjh
abbrev mW a0 a1:=tY (dY a0 a1)
abbrev RR a0 a1 a2 a3:=rq a0 a1 (jn a2 a3)
abbrev nS a0 a1 a2 a3 a4:=RR a0 a1 (ib a2 a3) a4
abbrev pE a0 a1 a2:=jn a0 (lY a1 a2)
def iP:=rq 9000 Qf6 (pz (qa Qf7) (sp z_ Qgd (tK Qge Qgd)) Qf7 Q0 (dK Qf9 Qga Qgf (cZ Qq Qgf Qr (sp z_ Qgf Qgf) Qgf)) (gR Qf7 oq (dK Qf9 Qga Qgg (cZ Qq Qgg Qr (sp z_ Qgg Qgg) Qgg)) Qf7 sj (dK Qf9 Qga C6 (cZ Qq C6 Qr (cZ z_ C6 Qge (k7 Qgx Qgy Qgz (sp Qg0 Qg9 (cZ Qha Qhb Qhc Qhb (cZ Qhd Qhg Qhh Qhi (cZ Qhj Qhn Qho Qhx (cZ Qhz Qh0 Qh1 Qh3 (cZ Qh4 Qh5 Qh7 Qia (cZ Qib Qic Qid Qie (cZ Qif Qig Qih Qii (cZ Qij Qik Qim Qin (cZ Qio Qiq Qir (tK Qis (iF Qit Qiu (sp x? (jz 12000 SS 12000 SS Qix (pE (mW 12000 SS) Qiy (Hk Qiz Qi0 (lY Qi0 (xb Qi2 Qi0 [va y? (ua M7 SY SX (BR Qi2 Qi0) Vn),Qm,c9,ek,Qa,Qa,sj]))))) Cc) Qi4 (jz 12000 SV 12000 SV Qi7 (pE (mW 12000 SV) Qi8 (Hk Qi9 Qja (lY Qja (xb Qjb Qja [LP Qi5 Km (ua M7 SY SX (BR Qjb Qja) Vn),Qm,c9,ek,Qa,Qa,sj]))))) Cc)) Qji)))))))))) C6) C6) C6)) (gR Qf7 Bj (dK Qf9 Qga C6 (cZ Qq C6 Qr (cZ z_ C6 Qge (k7 Qgx Qgy Qgz (sp Qg0 Qg9 (cZ Qha Qhb Qhc Qhb (cZ Qhd Qhg Qhh Qhi (cZ Qhj Qhn Qho Qhx (cZ Qhz Qh0 Qh1 Qh3 (cZ Qh4 Qh5 Qh7 Qia (cZ Qib Qic Qid Qie (cZ Qif Qig Qih Qii (cZ Qij Qik Qim Qjj (cZ Qio M8 Qir (tK Qis (iF Qit Qiu (sp x? (jz 12100 SS 12100 SS Qix (pE (mW 12100 SS) Qjk (Hk Qjl Qjm (lY Qjm (xb Qjn Qjm [va y? (ua M7 SY SX (BR Qjn Qjm) Vn),Qm,c9,ek,Qa,Qa,sj]))))) Cc) Qi4 (jz 12100 SV 12100 SV Qi7 (pE (mW 12100 SV) Qjo (Hk Qjp Qjq (lY Qjq (xb Qjr Qjq [LP Qi5 Km (ua M7 SY SX (BR Qjr Qjq) Vn),Qm,c9,ek,Qa,Qa,sj]))))) Cc)) Qji)))))))))) C6) C6) C6)) Qf7 PD (dK Qf9 Qga C6 (cZ Qq C6 Qr (cZ z_ C6 Qge (k7 Qgx Qgy Qgz (sp Qg0 Qg9 (cZ Qha Qhb Qhc Qhb (cZ Qhd Qhg Qhh Qhi (cZ Qhj Qjt Qho Qju (cZ Qhz Qg9 Qh1 Qh3 (cZ Qh4 Qh5 Qh7 Qia (cZ Qib Qic Qid Qie (cZ Qif Qig Qih Qii (cZ Qij Qik Qim Qin (cZ Qio Qiq Qir (tK Qis (iF Qit Qiu (sp x? (nS 12200 SS 12200 SS Qjv) Cc) Qi4 (nS 12200 SV 12200 SV Qjw) Cc)) Qjx)))))))))) C6) C6) C6)) (k7 (jd Qf7 M9) Qf9 Qga C6 (cZ Qq C6 Qr (cZ z_ C6 Qge (k7 Qgx Qgy Qgz (sp Qg0 Qg9 (cZ Qha Qhb Qhc Qhb (cZ Qhd Qhg Qhh Qhi (cZ Qhj Qjt Qho Qju (cZ Qhz Qg9 Qh1 Qh3 (cZ Qh4 Qh5 Qh7 Qia (cZ Qib Qic Qid Qie (cZ Qif Qig Qih Qii (cZ Qij Qik Qim Qjj (cZ Qio M8 Qir (tK Qis (iF Qit Qiu (sp x? (nS 12300 SS 12300 SS Qjv) Cc) Qi4 (nS 12300 SV 12300 SV Qjw) Cc)) Qjx)))))))))) C6) C6) C6)))))
abbrev Qjy:=ju 451 [Qf,qi,Qa,Qb]
def ahV:=cZ (nW 64 qi) Qjy (gZ M6 Qc) Qjy (ju 452 [Qf,qi,Qa,Qb])
abbrev Qjz:=nV 451 [Qm]
def aeJ:=pA wR Kd (jn H4 Qjz) 453 [Qm,Ce,Qa,Qf]
abbrev Qj0:=[Qf,Qm,y_,Kb,Qfx,z!,nm S0]
def aeI:=pA wR Kd (jn H4 (jz 700 Qj0 700 Qj0 Qjz (nV 452 [Qm]))) 454 [Qm,Ce,Qa,Qf]
abbrev Qj1:List V:=wW [Qo,Qm,ce 0 MM,Kb,ce 2 MM]
def aeH:=tT (ez H4 455 Qj1) [.lit 120]
def aeG:=qf wR Kd (eW H4 (ic (.lit 120) Kb) (ju 455 Qj1) (ic (.lit 4000) (ce 2 MM)) 455 Qj1 (ju 456 Qj1)) gE
abbrev Qj2:=ju 453 [Qb,Qo,Q1,c9]
def aeF:=sp (ic Qf gr) Qj2 Qj2
abbrev Qj3:=el gr Qf
abbrev Qj4:=[c9,Qb,ek,eN,gr,jL Qj3,pw 1 Qj3,pw 2 Qj3,pw 3 Qj3,pw 4 Qj3,pw 5 Qj3,ce 6 Qj3]
abbrev Qj5:=kZ Qf
abbrev Qj6:=[ce 6 Qj3,ek,eN,gr]
abbrev ia a0 a1:=rr a0 a1 1
abbrev Qj7:=[Qj5,Qb,Qo,Qm,c9,dY 5000 Qj6,ia 5000 Qj6,kf 5000 Qj6]
def aeE:=pA (ic Qf gr) (wY Qf) (jz 750 Qj4 750 Qj4 (ju 455 [Qj5,Qb,Qo,Qm,c9,ek,eN,gr]) (lZ 5000 Qj6 5000 Qj6 3 (ju 456 Qj7) (ju 455 Qj7))) 454 [Qb,Qo,Q1,c9]
abbrev Ct:List V:=sJ [Qm,c9]
abbrev uo:V:=.dG 11
abbrev Qka:=wY jc
abbrev Qkb:=mV mH
abbrev w?:=jd Qf Bj
abbrev Qkd:=mV rm
abbrev Qke:=qa gr
abbrev Qkf:=ju 501 [uo,mH,ln mH,Qa,Qf,Qb,Qo,Qm,c9,ek,eN,gr,jc,rm,jU]
abbrev Qkg:=sp (pD jc) gE Qkf
abbrev tZ a0 a1 a2 a3:=cZ a0 gE a1 a2 a3
abbrev Qkh:=tZ Qkd Qke Qkg gE
abbrev pB a0:=jd a0 oq
abbrev Qki:=pB Qf
abbrev Qkj:=jd Qf (.lit 8)
abbrev J_:=jd Qf PD
abbrev Qkl:=tY Qf
abbrev kY a0 a1 a2:=tZ a0 a1 gE a2
abbrev Qkm:=tZ (gZ ek SU) (gZ ek uo) (kY Qka (gZ Qje jc) (cZ z_ (cZ Qkb (cZ w? Qkh Qki Qkh gE) Qkd (kj Qkj (kj Qke Qkg)) (pz Qke (sp (pD jc) (kj J_ Qkf) Qkf) Qf M9 Qkg gE)) Qkl (sp Qkb gE Qkh) (pz Qki (sp Qkb Qkh Qkh) Qf M9 (sp Qkb gE (tZ Qkd Qke Qkg Qkg)) gE))) gE
def Q_:=lZ 650 Ct 650 Ct 1 Qkm (kY Qe5 (gZ (dY 650 Ct) eN) Qkm)
abbrev Cs:V:=.dG 14
abbrev Qko:=pC (mk (nm Qs))
abbrev Al:V:=.dG 12
abbrev wQ:V:=.dG 13
abbrev tV a0 a1:=V.op .uS a0 a1
abbrev Qkr:=ju 501 (sJ [Q1,c9,ek,eN,gr,jc,mH,rm,uo,Al,wQ,tV Cs (cn Qko Qh)])
abbrev w!:=ln wQ
abbrev Qkt:=wY mH
abbrev rV a0:=kj a0 mf
abbrev Qku:=cZ Qkt mf (qa Qc) (rV (qa uo)) gE
abbrev zu a0 a1:=V.op .Ld a0 a1
abbrev zt a0 a1:=V.op .DV a0 a1
def Te:=qf Qp Qq (iF Qr (wY (nm Qs)) gE (gZ (nm Qs) Qf) (pz (qa (zu Cs Qko)) Qkr (nm (zt Cs Qko)) Q0 gE Qkr) gE) (oC Qe5 (pD w!) gE Qku (gZ eN w!) gE Qku)
abbrev Qkv:=pH qi 1759218604441
abbrev Qkw:=lC (pC Qf)
abbrev Qkx:=k0 (pC Qf)
def P?:=rU Qfk (ez Qkv 551 [Qf,qi,Qa]) Qkw 552 [] (ez Qkx 553 [])
abbrev Qky:=mV Kc
abbrev Qkz:=mU Kc
abbrev Qk0:=zw Qf ya MM Qbd S0
abbrev Qk1:=nY Qf ya MM Qbl
abbrev Qk2:=nY Qf ya MM Qbq
def aeD:=tT (iF H4 (mV S0) (eW (mU S0) Qky (ez Qkz 551 [qB Qk0 ya Qk0 Qo S2 Kc,Qb,UX]) (lC Kc) 551 [jO Qk0 ya Qk0 Qo Vs,Qb,UX] (ez (k0 Kc) 551 [jO Qk0 ya Qk0 Qo Vr,Qb,UX])) (lC S0) (pz Qky (ez Qkz 551 [qB Qk1 ya Qk1 Qo S2 Kc,Qb,UX]) Kc Qh (ju 551 [jO Qk1 ya Qk1 Qo Vs,Qb,UX]) (ez (k0 Kc) 551 [jO Qk1 ya Qk1 Qo Vr,Qb,UX])) (eW (k0 S0) Qky (ez Qkz 551 [qB Qk2 ya Qk2 Qo S2 Kc,Qb,UX]) (lC Kc) 551 [jO Qk2 ya Qk2 Qo Vs,Qb,UX] (ez (k0 Kc) 551 [jO Qk2 ya Qk2 Qo Vr,Qb,UX]))) Qj
def akW:=ou [Qh]
def akV:=ou [Qk]
abbrev Vm:=jd Qf sj
abbrev Qk4:=ou [oq]
abbrev Qk5:=ou [Bj]
def ahP:=qf (pH (wr Qf) 27) (wY Qf) (iF (pH Qf 27) (qa Qf) gE Qkl mf (cZ Qki mf Vm mf (cZ w? mf J_ Qk4 (gR Qf M9 Qk4 Qf x_ Qk4 (pz Qkj Qk4 Qf y! (ou [sj]) (tU Qf Qh6 (ou [sj]) Qf 11 (ou [sj]) (tU Qf (.lit 12) Qk5 Qf 13 Qk5 (tU Qf (.lit 14) Qk5 Qf 15 (ou [PD]) (tU Qf M6 (ou [M9]) Qf 17 (ou [x_]) (tU Qf (.lit 18) (ou [x_]) Qf 19 (ou [x_]) (tU Qf Qil (ou [.lit 8]) Qf 21 (ou [.lit 8]) (tU Qf (.lit 22) (ou [y!]) Qf 23 (ou [y!]) (gR Qf J' Qk5 Qf Qjf (ou [PD]) (ou [M9])))))))))))))) gE
def aeC:=cZ Vm (ou [Qo,Q0]) J_ (ou [rX Qo Q0,Q0]) (gR Qf x_ (ou [.lit 1099511627776,Q0]) Qf y! (ou [Qa,Qa]) (ou [Qa,Q0]))
abbrev Qk6:=rV (qa c9)
abbrev Qk7:=kY Qe8 (nW 1048576 c9) mf
abbrev Qk8:=wY c9
def ahO:=sp (tY Qo) Qk6 (gR Qo oq Qk6 Qo M9 Qk6 (gR Qo x_ Qk6 Qo sj Qk7 (gR Qo (.lit 8) Qk7 Qo PD (kY Qe8 (gZ M6 c9) mf) (gR Qo Bj (tZ Qk8 (qE c9) (rV (tY (pG 0 Qf c9))) gE) Qo y! mf gE))))
abbrev Qk9:=wY gr
abbrev Qla:=tY ek
abbrev Qlb:=pB ek
abbrev Qlc:=jd ek sj
abbrev Qld:=jd ek Bj
abbrev Qle:=jd ek PD
abbrev Qlf:=jd ek x_
abbrev Qlg:=kY (jd ek M9) Qlf gE
abbrev Qlh:=sp Qlc gE (kY Qld Qle Qlg)
abbrev Qli:=qE gr
abbrev Qlj:=pG 0 Qf gr
abbrev Qlk:=[Qlj,ek,eN,gr,jc,mH,rm,uo,Qa]
abbrev Qll:=qF eN M6 gE mf
abbrev Qlm:=oB 950 Qlk 950 Qlk Qll
abbrev Qln:=kj Qli (rV (jd Qlj M9))
abbrev Qlo:=rV (tY (ln uo))
abbrev Qlp:=sp (gZ UU mH) gE Qlo
abbrev Qlq:=sp (gZ UU mH) gE mf
abbrev Qlr:=sp Qlc gE (cZ Qld Qlp Qle Qlq Qlg)
abbrev Qls:=qF eN M6 Qlq mf
abbrev Qlt:=oB 950 Qlk 950 Qlk Qls
abbrev Qlu:=gZ jc Ce
abbrev Qlv:=sp Qlc (kj Qlu Qlo) (kY Qld Qle (cZ (jd ek M9) (rV Qlu) Qlf (kj Qlu gE) gE))
abbrev Qlw:=[Qlj,ek,eN,gr,jc,mH,rm,uo,Q0]
abbrev Qlx:=sp Qlc (kj Qlu Qlo) (cZ Qld Qlp Qle Qlq (cZ (jd ek M9) (rV Qlu) Qlf (kj Qlu Qlq) gE))
def ahN:=sp Qka (oC Qkt Qk9 (kY Qla Qlb Qlh) (cZ Qla (kj Qli Qlm) Qlb Qln Qlh) Qk9 (kY Qla Qlb Qlr) (cZ Qla (kj Qli Qlt) Qlb Qln Qlr)) (oC Qkt Qk9 (kY Qla Qlb Qlv) (cZ Qla (kj Qli (sp Qlu (oB 950 Qlw 950 Qlw Qll) Qlm)) Qlb Qln Qlv) Qk9 (kY Qla Qlb Qlx) (cZ Qla (kj Qli (sp Qlu (oB 950 Qlw 950 Qlw Qls) Qlt)) Qlb Qln Qlx))
abbrev Qly:List V:=sJ [Qm,Q0,.lit 1000,c9]
def ahM:=lZ 5050 Qly 5050 Qly 2 gE mf
def ahL:=ju 851 [Qf,Qb,qi,Qa]
abbrev Qlz:=jA Qf Qm
abbrev Ql0:List V:=sJ [Q1]
def P!:=rY Qp Qq (dK (qE Qm) (jd Qb Qlz) (ou [Qm]) (ju 851 Ql0)) [SU]
abbrev nR a0 a1 a2 a3:=ta a0 a1 a2 gE a3
def ahK:=nR 850 C7 (wY (dY 850 C7)) mf
abbrev Ql1:=[Qf,ln gr,Qb,Qo,Qm,c9,ek,eN,gr]
def ahF:=pF jc (ju 951 Ql1) (ju 952 Ql1)
abbrev Ql2:=kg Qh jU jU Qh
abbrev yN (l:List V):=Qf::Qb::Q0::Qo::l
abbrev qu (l:List V):=Qm::c9::ek::l
abbrev Ql3:List V:=yN (qu [eN,gr,jc,NJ jU Ql2])
abbrev Ql4:=[Qf,Q0,Qa,Qa,Qm,Qa,Qa]
abbrev Ql5:=CH 1200 [Qm]
abbrev Ql6:=jd Qf (dY 1200 [Qm])
abbrev Ql7:=[Qf,jU]
abbrev Ql8:=CH 5150 Ql7
abbrev Ql9:=qg 5150 Ql7 2
abbrev Qma:=qF Qm M6 mf mf
abbrev rb a0:=ic Qil a0
abbrev Qmb:=dK Ql5 Ql6 (iF Ql8 Ql9 gE (rb (ia 5150 Ql7)) gE Qma) gE
abbrev Qmc:=oB 12400 Ql4 12400 Ql4 (jn (mW 12400 Ql4) Qmb)
abbrev Qmd:=[Qa,Qa,Qf,Qa,Qa,Qa,Qm,Qa,Qa]
abbrev Qme:=CH 5200 Ql7
abbrev Qmf:=qg 5200 Ql7 3
abbrev Qmg:=[Qf,Qa,Qa,Qa,Qm,Qa,Qa]
abbrev Qmh:=cZ Vm Qmc Qkj Qmc (cZ J_ Qmc w? (oB 12450 Qmd 12450 Qmd (k7 (mW 12450 Qmd) Ql5 Ql6 (iF Qme Qmf gE (rb (kf 5200 Ql7)) gE Qma) gE)) (oB 12400 Qmg 12400 Qmg (jn (mW 12400 Qmg) Qmb)))
abbrev Qmi:=ib 12500 Ql4
abbrev Qmj:=mW 12500 Ql4
abbrev xc a0 a1:=V.ei (qpx a0 a1)
abbrev Qmk:=xc 97 vc
abbrev Qml:=cn Qmk Qh
abbrev Qmm:=rb (tV (ia 5150 Ql7) Qml)
abbrev Qmn:=dK Ql5 Ql6 (dK Ql8 Ql9 gE (pz Qmm gE Qm M6 gE gE)) gE
abbrev Qmo:=nR 12500 Ql4 Qmi (jn Qmj Qmn)
abbrev Qmp:=ib 12550 Qmd
abbrev Qmq:=mW 12550 Qmd
abbrev Qmr:=rb (tV (kf 5200 Ql7) Qml)
abbrev Qms:=ib 12500 Qmg
abbrev Qmt:=mW 12500 Qmg
def aeB:=pz Qfj (ju 953 Ql3) ek SU Qmh (cZ Vm Qmo Qkj Qmo (cZ J_ Qmo w? (nR 12550 Qmd Qmp (k7 Qmq Ql5 Ql6 (dK Qme Qmf gE (pz Qmr gE Qm M6 gE gE)) gE)) (nR 12500 Qmg Qms (jn Qmt Qmn))))
abbrev Qmu:=dK Ql5 Ql6 (iF Ql8 Ql9 gE Qmm gE Qma) gE
abbrev Qmv:=nR 12500 Ql4 Qmi (jn Qmj Qmu)
def aeA:=pz Qfj (ju 954 Ql3) ek SU Qmh (cZ Vm Qmv Qkj Qmv (cZ J_ Qmv w? (nR 12550 Qmd Qmp (k7 Qmq Ql5 Ql6 (iF Qme Qmf gE Qmr gE Qma) gE)) (nR 12500 Qmg Qms (jn Qmt Qmu))))
abbrev Qmw:=mX rm (.lit 2513169434915)
abbrev Qmx:List V:=pq (qu [eN,gr,jc,mH,NJ rm Ql2])
abbrev v!:List V:=[Qf,Q0,Qa,Qa,c9,Qa,rm,Qa]
abbrev Qmz:=CH 1200 [c9]
abbrev Qm0:=jd Qf (dY 1200 [c9])
abbrev Qm1:=[rr 12600 v! 9,rr 12600 v! 10,Qf,jU]
abbrev Qm2:=sp (tX M6) mf mf
abbrev Qm3:=oB 12600 v! 12600 v! (k7 (mW 12600 v!) Qmz Qm0 (rq 5300 Qm1 (kY (qg 5300 Qm1 3) (rb (kf 5300 Qm1)) Qm2)) gE)
abbrev w_:=[Qa,Qa,Qf,Qa,Qa,Qa,c9,Qa,rm,Qa]
abbrev Qm5:=[rr 12650 w_ 11,rr 12650 w_ 12,Qf,jU]
abbrev v?:List V:=[Qf,Qa,Qa,Qa,c9,Qa,rm,Qa]
abbrev Qm7:=[rr 12600 v? 9,rr 12600 v? 10,Qf,jU]
abbrev Qm8:=cZ Vm Qm3 Qkj Qm3 (cZ J_ Qm3 w? (oB 12650 w_ 12650 w_ (k7 (mW 12650 w_) Qmz Qm0 (rq 5350 Qm5 (kY (qg 5350 Qm5 4) (rb (rr 5350 Qm5 3)) Qm2)) gE)) (oB 12600 v? 12600 v? (k7 (mW 12600 v?) Qmz Qm0 (rq 5300 Qm7 (kY (qg 5300 Qm7 3) (rb (kf 5300 Qm7)) Qm2)) gE)))
abbrev Qm9:=ib 12700 v!
abbrev Qna:=mW 12700 v!
abbrev Qnb:=[rr 12700 v! 9,rr 12700 v! 10,Qf,jU]
abbrev Qnc:=qg 5300 Qnb 3
abbrev Qnd:=rb (tV (kf 5300 Qnb) Qml)
abbrev Qne:=kj (tX M6) gE
abbrev Qnf:=nR 12700 v! Qm9 (k7 Qna Qmz Qm0 (rq 5300 Qnb (kY Qnc Qnd Qne)) gE)
abbrev Qng:=ib 12750 w_
abbrev Qnh:=mW 12750 w_
abbrev Qni:=[rr 12750 w_ 11,rr 12750 w_ 12,Qf,jU]
abbrev Qnj:=qg 5350 Qni 4
abbrev Qnk:=rb (tV (rr 5350 Qni 3) Qml)
abbrev Qnl:=ib 12700 v?
abbrev Qnm:=mW 12700 v?
abbrev Qnn:=[rr 12700 v? 9,rr 12700 v? 10,Qf,jU]
abbrev Qno:=qg 5300 Qnn 3
abbrev Qnp:=rb (tV (kf 5300 Qnn) Qml)
def qd:=pz wR (ez Qmw 953 Qmx) eN SU Qm8 (cZ Vm Qnf Qkj Qnf (cZ J_ Qnf w? (nR 12750 w_ Qng (k7 Qnh Qmz Qm0 (rq 5350 Qni (kY Qnj Qnk Qne)) gE)) (nR 12700 v? Qnl (k7 Qnm Qmz Qm0 (rq 5300 Qnn (kY Qno Qnp Qne)) gE))))
abbrev Qnq:=nR 12700 v! Qm9 (k7 Qna Qmz Qm0 (rq 5300 Qnb (kY Qnc Qnd Qm2)) gE)
def qc:=pz wR (ez Qmw 954 Qmx) eN SU Qm8 (cZ Vm Qnq Qkj Qnq (cZ J_ Qnq w? (nR 12750 w_ Qng (k7 Qnh Qmz Qm0 (rq 5350 Qni (kY Qnj Qnk Qm2)) gE)) (nR 12700 v? Qnl (k7 Qnm Qmz Qm0 (rq 5300 Qnn (kY Qno Qnp Qm2)) gE))))
def acb:=lZ 1050 [Qf,Qa] 1050 [Qf,Qa] 6 (kj (pB (dY 1050 [Qf,Qa])) (rV (jd (rX (rr 1050 [Qf,Qa] 5) (rr 1050 [Qf,Qa] 4)) qi))) gE
abbrev Qnr:=ou [Qa,jU,Qa,Qa,Qa,Qa,oq,Qa]
abbrev PB:=rr 12800 C7 3
abbrev Qnt:=kZ (nX .cnt .sub Qf (Cj jU (mk PB) jU) Qh6)
abbrev Qnu:=rr 12850 [Qf,PB] 3
abbrev Vl:V:=.op .sub Qf (Cj (mk PB) (mk Qnu) jU)
abbrev Qnw:=jA Vl Qa
abbrev Qnx:V:=.lit 256
abbrev Qny:=jA (.ei b0) Qnw
abbrev Qnz:=ou [Qa,jU,Qa,Qa,Qa,Qa,.lit 100,Qnt]
abbrev Qn0:=xc 32 vc
abbrev Qn1:=jd (pC Vl) (xc 61 vc)
def P7:=gJ (nW 16384 qi) [Qa,jU,Qa,Qa,Qa,Qa,sj,Qa] (cZ PC Qnr (gZ qi Qb) Qnr (nS 12800 C7 12800 C7 (lY PB (nU qi PB (gJ (jd PB qi) [PD,jU,Qa,Qnt,PB,PB,Qa,Qa] (nS 12850 [Qf,PB] 12850 [Qf,PB] (nU Qnu PB (nU qi Qnu (pE (mV Vl) Qnw (dK (gZ Qnw Qnx) (jd Qny sj) (lZ 1100 [Vl] 1100 [Vl] 1 Qnz (ou [Q0,jU,dY 1100 [Vl],Qnt,PB,Qnu,Qa,Qa])) (gR Qny Bj (jn (mX Vl (.lit 1000000000)) (iF (mX (.op .cat Qn0 Vl) (.lit 1000000000)) (qa (.op .con (.ei b1) (nX .cat .cat Qn0 Vl Qn0))) (sp Qn1 Qnz (ou [oq,Vl,Qa,Qnt,PB,Qnu,Qa,Qa])) Qn1 Qnz (ou [sj,Vl,Qa,Qnt,PB,Qnu,Qa,Qa]))) Qny PD (sp Qn1 Qnz (ou [Bj,Vl,Qa,Qnt,PB,Qnu,Qa,Qa])) Qnz)))))))))))
def aca:=pF qi (ju 1101 []) (ju 1102 [Qa,Qf,qi,Qa])
def aih:=ou [Qa,Q0]
abbrev Qn2:=wr (.wrap .u8 (.sub (nm Qs) (.lit 48)))
def WT:=rY Qp Qq (dK Qr (gZ (wr (.quo (rX (.lit 9223372036854775807) Qn2) Qh6)) Qf) (ou [Qa,Qa]) (ju 1102 [pI (wr (.mul Qf Qh6)) Qn2,Qb,Qo,Q1])) [Qf,Q0]
abbrev Qn3:=ib 1000 [Qb]
abbrev Qn4:=rX Ce Q0
abbrev Qn5:=xc 45 vc
abbrev Qn6:=xc 43 vc
abbrev Qn7:=xc 42 vc
abbrev Qn8:=xc 61 (qpx 61 vc)
abbrev Qn9:=xc 60 vc
def ab9:=sp Qkl (pz Kd gE Qg jU (rV (qa Ce)) gE) (cZ Qki (kj (qa Qo) (kj (qa Ce) (nR 1000 [Qb] Qn3 mf))) Vm (kj (qa Qo) (kY (gZ Ce Q0) (gZ oq Ce) (lY Qn4 (iF (gZ Qn4 oq) (qa Qn4) (rV (jd Qg Qn5)) (jd Qg Qn6) mf (gR Qg Qn5 mf Qg Qn7 mf (gR Qg Qn8 mf Qg Qn9 mf gE)))))) gE)
def ab8:=sp (gZ Bj Qf) (sp (nW 8 Qf) (sp (nW 11 Qf) (sp (nW 14 Qf) (gJ (jd Qf (.lit 15)) [PD] (cZ (jd Qf M6) (ou [M9]) (nW 19 Qf) (gJ (nW 21 Qf) [y!] (ou [.lit 8])) (ou [x_]))) Qk5) (ou [sj])) Qk4) mf
def ab7:=pz w? mf Qf (.lit 17) mf (tU Qf Qil mf Qf 23 mf gE)
def ab6:=sp Vm mf (pz w? mf Qf (.lit 11) mf (tU Qf (.lit 21) mf Qf 22 mf gE))
def ab5:=cZ Vm mf J_ mf (pz Qkj mf Qf y! mf gE)
abbrev Qoa:=pz w? (oB 1000 [Qm] 1000 [Qm] mf) (pC Qm) jU mf gE
def ab4:=kY (gZ Qf Q0) (gZ y! Qf) (nR 1000 [Qb] Qn3 (tZ Kd (pD Qo) (oB 1350 Qj 1350 Qj Qoa) Qoa))
def Ws:=dK Qfg Qfh (rq 300 C7 (ju 1451 [Qb,Qc,dY 300 C7])) (ou [Qh,Qh,dY 450 C7])
abbrev Qob:=ln (ce 1 Vp)
abbrev Qoc:=kg jU jU jU jU
def P6:=sp Qfj (dK Qfk (qa Qob) (ju 1452 (yN [k8 jU jU Qk Qoc])) (ez (gZ Qob Qv) 1452 (yN [k8 jU jU (rpx Qob jU) Qoc]))) (ou [Qo,Qh,Qa])
abbrev Qod:=qa (ln Kb)
abbrev Qoe:=pH UU 2199023255551
abbrev Qof:=mU Kb
abbrev Qog:=ou [Qm,c9,Qa]
def P5:=qf wR Kd (dK H4 Qod (gg Qoe 1452 [Qm,k8 c9 jU Qk Qoc]) (jn Qof (gg Qoe 1452 [Qm,k8 c9 jU (rpx (ln Kb) jU) Qoc]))) Qog
def ab3:=eW Qf9 Qga gE (jd Ce Qc) 1501 [Qm,Ce,Qa,Qf,Qb] gE
abbrev Qoh:=[Qm,c9,ce 0 Qdk,Qdl,ce 2 Qdk,y_,Kb,Qfx,nm z!,nm S0,nm Kc]
def Wr:=qf wR Kd (jn H4 (jn z? (oB 1600 Qoh 1600 Qoh (nV 1501 [Qm,c9])))) mf
abbrev I!:List V:=sJ [Qm]
abbrev Qoj:=CH 1500 I!
abbrev Qok:=ib 1500 I!
def ab2:=tZ Qk8 (gZ c9 Qc) (dK Qoj Qok gE mf) gE
def ab1:=sp z_ gE (pz (gZ UU ek) gE H5 Ce (sp (wY rm) gE (tZ (gZ Qje rm) Qke (kj (qa jc) (rV (qa mH))) (gR gr J' (tZ Qka (qE jc) (rV (jd (pG 0 Qf jc) Bj)) gE) gr Qjf (tZ Qka (qE jc) (rV (jd (pG 0 Qf jc) PD)) gE) gE))) gE)
abbrev Qol:=el Qm c9
abbrev Qom:=pw 2 Qol
abbrev Qon:=jL Qol
def ab0:=tK Qk8 (dK (gZ c9 Ce) (qa Qom) (dK (gZ c9 Qc) (jd Qon (ln (ce 2 (el Qb c9)))) mf gE) gE)
abbrev Qoo:=CH 1550 Ct
abbrev Qop:=ib 1550 Ct
abbrev Qoq:=ib 1650 Ct
def P4:=dK Qoo Qop gE (nR 1650 Ct Qoq mf)
abbrev Qor:=el (ce 2 (el Qb c9)) Qon
abbrev Qos:=ou [Qa,Qa,Qa,Qa,Qa]
def Gc:=tK Qk8 (dK (gZ c9 Ce) (qa Qom) (ta 1650 Ct Qoq (pE (gZ c9 Qc) Qon (iF (ic Qon (ce 2 (el Qb c9))) (tY (jL Qor)) (ju 1751 [ce 6 Qor,ln (ce 6 Qor),Qa,Qon,ce 1 Qol,Qom,pw 3 Qol,pw 4 Qol,pw 5 Qol,pw 1 Qor,pw 2 Qor,Qa]) (pB (jL Qor)) (ou [.lit 26,pw 2 Qor,Qa,Qa,Q0]) Qos)) Qos) (ou [Qom,pw 3 Qol,pw 4 Qol,Qa,Q0]))
def Wq:=tT (jn H4 (rq 1950 [y_,Kb,Qfx,z!,c9] (nV 1751 (qu [eN,gr,jc,mH,rm,dY 1950 [y_,Kb,Qfx,z!,c9]])))) [mH,rm,uo,jc,Q0]
abbrev acg (l:List V):=(rr 1750 Ct 0)::(rr 1750 Ct 1)::(rr 1750 Ct 2)::(rr 1750 Ct 3)::l
def P3:=dK Qoo Qop Qos (lZ 1750 Ct 1750 Ct 4 (ou (acg [Qa])) (ou (acg [Q0])))
abbrev I':List V:=[c9,Qo,Qm]
abbrev Qou:=dY 9050 I'
abbrev M5:=kf 9050 I'
abbrev I_:=rr 9050 I' 3
abbrev Qox:=[Qf,Qb,M5,I_,c9]
abbrev Qoy:=[Qf,Qb,M5,Qh,c9]
abbrev Qoz:=[Qf,Qb,M5,Qk,c9]
abbrev Qo0:=rr 9050 I' 4
abbrev Qo1:=rr 9050 I' 5
abbrev Qo2:=rr 9050 I' 6
abbrev Qo3:=rr 9050 I' 7
abbrev Qo4:=rr 9050 I' 8
abbrev Qo5:=rr 9050 I' 9
abbrev Qo6:=kg (mk Qo2) (mk Qo3) (mk Qo4) (mk Qo5)
abbrev Qo7:=qD I_ (mk c9) (mk Qo0) Qo1 Qo6
abbrev Qo8:=ou [M5,Qo7,Qa,Qa,Qa,Qa,Qa,Qa]
abbrev I?:List V:=[Qf,Qb,M5,Qo7,c9]
abbrev Qpa:=ib 1650 I?
abbrev Qpb:=qg 1750 I? 4
abbrev Qpc:=[Qf,Qb,c9,M5,I_,Qo0,Qo1,Qo2,Qo3,Qo4,Qo5]
abbrev Qpd:=[Qf,Qb,c9,dY 1750 I?,ia 1750 I?,kf 1750 I?,rr 1750 I? 3,M5,I_,Qo0,Qo1,Qo2,Qo3,Qo4,Qo5]
abbrev Qpe:=ou [M5,Qo7,Qa,Qa,Qa,Qa,Qa,Bj]
abbrev acF a0 a1:=rr a0 Qpd a1
abbrev rW a0:=acF 14500 a0
abbrev tW a0:=acF 14550 a0
def mr:=rq 9050 I' (pz (qa Qou) (dK Qoo Qop (ou [M5,I_,Qa,Qa,Qa,Qa,Qa,Qa]) (jz 1650 Qox 1650 Qox (RR 1750 Qox (qg 1750 Qox 4) fl) (ou [M5,I_,Qa,Qa,Qa,Qa,Qa,Bj]))) Qou Q0 (dK Qoo Qop (ou [M5,Qh,Qa,Qa,Qa,Qa,Qa,Qa]) (jz 1650 Qoy 1650 Qoy (RR 1750 Qoy (qg 1750 Qoy 4) fl) (ou [M5,Qh,Qa,Qa,Qa,Qa,Qa,Bj]))) (gR Qou oq (dK Qoo Qop (ou [M5,Qk,Qa,Qa,Qa,Qa,Qa,Qa]) (jz 1650 Qoz 1650 Qoz (RR 1750 Qoz (qg 1750 Qoz 4) fl) (ou [M5,Qk,Qa,Qa,Qa,Qa,Qa,Bj]))) Qou sj (dK Qoo Qop Qo8 (ta 1650 I? Qpa (ta 1750 I? Qpb (nS 14000 Qpc 14000 Qpc (ou [M5,qD I_ (mk c9) (mk (rr 14000 Qpc 12)) (rr 14000 Qpc 13) Qo6,Qa,Qa,Qa,Qa,Qa,Q0])) (nS 14500 Qpd 14500 Qpd (ou [rW 22,qD I_ (mk c9) (mk (rW 23)) (rW 24) (kg (mk (rW 25)) (mk (rW 26)) (mk (rW 27)) (mk (rW 28))),rW 16,rW 17,rW 18,rW 19,rW 20,rW 21]))) Qpe)) (k7 (jd Qou Bj) Qoo Qop Qo8 (ta 1650 I? Qpa (ta 1750 I? Qpb (nS 14050 Qpc 14050 Qpc (ou [M5,qD I_ (mk c9) (mk (rr 14050 Qpc 12)) Qo1 Qo6,Qa,Qa,Qa,Qa,Qa,Q0])) (nS 14550 Qpd 14550 Qpd (ou [tW 22,qD I_ (mk c9) (mk (tW 23)) Qo1 (kg (mk (tW 24)) (mk (tW 25)) (mk (tW 26)) (mk (tW 27))),tW 16,tW 17,tW 18,tW 19,tW 20,tW 21]))) Qpe))))
abbrev Qpf:=pH Qc 2199023255552
abbrev Qpg:=[qi,Qa,Qf]
def aif:=cZ Qfk (eW Qkv Qd (ez Qpf 1901 [qi,Qa,Qf,Qb]) Qi 1902 Qpg (ez Ql 1903 Qpg)) Qkw (rU Qd (ez Qpf 1904 [Qb]) Qi 1905 [] (ez Ql 1906 [])) (eW Qkx Qd (ez Qpf 1907 [Qb]) Qi 1908 [] (ez Ql 1909 []))
abbrev US:=gZ Qb Qf
abbrev Qpi:=gZ Qb S1
abbrev Vk:=el Qo Qb
abbrev Qpk:=ce 4 Vk
abbrev Qpl:=mV Qpk
abbrev Qpm:=mU Qpk
abbrev Qpn:=ce 5 Vk
abbrev Qpo:=mV Qpn
abbrev Qpp:=mU Qpn
abbrev Fy:=mk Qb
abbrev Qpr:=zw Qo Fy Vk Qbd Qpk
abbrev Qps:=qB Qpr Fy Qpr Qb S2 Qpn
abbrev Qpt:=lC Qpn
abbrev Qpu:=jO Qpr Fy Qpr Qb Vs
abbrev Qpv:=k0 Qpn
abbrev Qpw:=jO Qpr Fy Qpr Qb Vr
abbrev Qpx:=nY Qo Fy Vk Qbl
abbrev Qpy:=qB Qpx Fy Qpx Qb S2 Qpn
abbrev Qpz:=jO Qpx Fy Qpx Qb Vs
abbrev Qp0:=jO Qpx Fy Qpx Qb Vr
abbrev Qp1:=nY Qo Fy Vk Qbq
abbrev Qp2:=qB Qp1 Fy Qp1 Qb S2 Qpn
abbrev Qp3:=jO Qp1 Fy Qp1 Qb Vs
abbrev Qp4:=jO Qp1 Fy Qp1 Qb Vr
def aie:=pA US PC (iF Qpi Qpl (eW Qpm Qpo (ez Qpp 1901 [Qf,qb,Qps,Qm]) Qpt 1901 [Qf,qb,Qpu,Qm] (ez Qpv 1901 [Qf,qb,Qpw,Qm])) (lC Qpk) (rU Qpo (ez Qpp 1901 [Qf,qb,Qpy,Qm]) Qpt 1901 [Qf,qb,Qpz,Qm] (ez Qpv 1901 [Qf,qb,Qp0,Qm])) (eW (k0 Qpk) Qpo (ez Qpp 1901 [Qf,qb,Qp2,Qm]) Qpt 1901 [Qf,qb,Qp3,Qm] (ez Qpv 1901 [Qf,qb,Qp4,Qm]))) 1910 [Ce,Qa,Qo,Qm]
def aid:=pA US PC (iF Qpi Qpl (eW Qpm Qpo (ez Qpp 1902 [Qf,qb,Qps]) Qpt 1902 [Qf,qb,Qpu] (ez Qpv 1902 [Qf,qb,Qpw])) (lC Qpk) (rU Qpo (ez Qpp 1902 [Qf,qb,Qpy]) Qpt 1902 [Qf,qb,Qpz] (ez Qpv 1902 [Qf,qb,Qp0])) (eW (k0 Qpk) Qpo (ez Qpp 1902 [Qf,qb,Qp2]) Qpt 1902 [Qf,qb,Qp3] (ez Qpv 1902 [Qf,qb,Qp4]))) 1911 [Qo]
def aic:=pA US PC (iF Qpi Qpl (eW Qpm Qpo (ez Qpp 1903 [Qf,qb,Qps]) Qpt 1903 [Qf,qb,Qpu] (ez Qpv 1903 [Qf,qb,Qpw])) (lC Qpk) (rU Qpo (ez Qpp 1903 [Qf,qb,Qpy]) Qpt 1903 [Qf,qb,Qpz] (ez Qpv 1903 [Qf,qb,Qp0])) (eW (k0 Qpk) Qpo (ez Qpp 1903 [Qf,qb,Qp2]) Qpt 1903 [Qf,qb,Qp3] (ez Qpv 1903 [Qf,qb,Qp4]))) 1912 [Qo]
def aib:=ju 1913 Qpg
def aia:=ju 1914 []
def ah9:=ju 1915 []
def ah8:=ju 1916 Qpg
def ah7:=ju 1917 []
def ah6:=ju 1918 []
abbrev Qp5:=el Qm Qb
abbrev Qp6:=ce 1 Qp5
def ah5:=rY US PC (eW (gZ Qb Ce) (mV Qp6) (ez (mU Qp6) 1910 [Qf,qb,Qo,zw Qm Fy Qp5 Qh Qp6]) (lC Qp6) 1910 [Qf,qb,Qo,nY Qm Fy Qp5 Qdx] (ez (k0 Qp6) 1910 [Qf,qb,Qo,nY Qm Fy Qp5 Qdz])) [Qo,Qm]
def ah4:=ou [Qf,Qh]
def ah3:=ou [Qf,Qk]
abbrev UT:=ce 1 Vk
abbrev Qp8:=[Qf,qb,zw Qo Fy Vk Qh UT]
abbrev Qp9:=[Qf,qb,nY Qo Fy Vk Qdx]
abbrev Qqa:=[Qf,qb,nY Qo Fy Vk Qdz]
def ah2:=rY US PC (eW Qpi (mV UT) (ez (mU UT) 1913 Qp8) (lC UT) 1913 Qp9 (ez (k0 UT) 1913 Qqa)) [Qh,Qo]
def ah1:=ou [Qh,Qh]
def ah0:=ou [Qh,Qk]
def ahZ:=rY US PC (eW Qpi (mV UT) (ez (mU UT) 1916 Qp8) (lC UT) 1916 Qp9 (ez (k0 UT) 1916 Qqa)) [Qk,Qo]
def ahY:=ou [Qk,Qh]
def ahX:=ou [Qk,Qk]
abbrev Qqb:=el Qm Qa
abbrev Qqc:=[jL Qqb,ce 1 Qqb,pw 2 Qqb,ce 3 Qqb,c9]
abbrev Qqd:=dY 1950 Qqc
abbrev Qqe:=el Qm Q0
abbrev Qqf:=[jL Qqe,ce 1 Qqe,pw 2 Qqe,ce 3 Qqe,c9]
abbrev Qqg:=dY 1950 Qqf
abbrev Qqh:=tV (nX .uS .uS jU (cn Qn6 (mk (pI Qqd Qqg))) (cn Qn5 (mk (rX Qqd Qqg)))) (cn Qn7 (mk (wr (.mul Qqd Qqg))))
abbrev Qqi:=pF (zu Qqh Qg) gE (ou [nm (zt Qqh Qg)])
def P2:=gJ Qkl [Qo] (cZ Qki (tZ Kd z? (ou [nm Qdk]) gE) Vm (gR Ce Q0 (kj (jd Qg Qn5) (rq 1950 Qqc (ou [rX Qa Qqd]))) Ce oq (rq 1950 Qqc (rq 1950 Qqf (gR Qg Qn8 (qF Qqd Qqg mf Qqi) Qg Qn9 (sp (gZ Qqd Qqg) mf Qqi) Qqi))) gE) gE)
def ahW:=tZ (gZ Qb Q0) (wY (.rem Qf Qb)) (ou [pI (.rem Qf Qb) Qb]) (ou [.rem Qf Qb])
def P1:=lZ 1450 C7 1450 C7 2 (ju 2401 [Qo,Qc,Qa,Qf,Qb,dY 1450 C7,ia 1450 C7]) (ou [Qh,Qh,Qh])
abbrev Qqj:V:=.rem (pI (.rem (nm MM) Qb) Qb) Qb
abbrev H?:List V:=qu [eN,Qqj]
abbrev ld a0 a1:=rr 1850 a0 a1
abbrev Qql:=ld H? 7
abbrev Qqm:=ld H? 1
abbrev lX a0 a1:=mk (ld a0 a1)
abbrev Qqn:=nV 2402 [NJ jU (cn (lX H? 2) (kg (lX H? 3) (lX H? 4) (lX H? 5) (lX H? 6))),Qm,c9,ld H? 0,Qqm]
abbrev Qqo:=nV 2401 [Qm,c9,ld H? 0,Qqm]
def Bq:=sp H4 (RQ Qfj (lY Qqj (jn (gZ Qqj H5) (ta 1850 H? (pB Qql) Qqn (gR Qql sj Qqn Qql Q0 Qqo (jn (ic Qqj Qqm) Qqo))))) [Qh,ek,eN]) (ou [Qh,ek,eN])
abbrev H!:List V:=[c9,ek,eN,gr,Qqj]
abbrev Qqq:=ld H! 7
abbrev Qqr:=ld H! 1
abbrev Qqs:=gg (pH Ce 3518437208882) 2402 [NJ Qm (cn (lX H! 2) (kg (lX H! 3) (lX H! 4) (lX H! 5) (lX H! 6))),c9,ek,ld H! 0,Qqr]
abbrev Qqt:=nV 2402 (qu [ld H! 0,Qqr])
def Gb:=sp H4 (RQ Qfj (lY Qqj (jn (ic Qqj gr) (ta 1850 H! (pB Qqq) Qqs (gR Qqq sj Qqs Qqq Q0 Qqt (jn (ic Qqj Qqr) Qqt))))) [Qm,eN,gr]) (ou [Qm,eN,gr])
def abZ:=dK Qoj Qok gE (ju 2551 [Qc,Qa,Qf,Qb,Qo,Qm])
abbrev yM (l:List V):=Qo::Qm::c9::l
abbrev H_:List V:=yM [ek,Qb]
abbrev Qqv:=CH 1800 H_
abbrev Qqw:=jd (dY 1800 H_) Bj
abbrev KW (l:List V):=Qf::qb::Qo::Qm::c9::ek::l
abbrev Qqx:=ju 2551 (KW [])
abbrev Qqy:=sp Qqw (sp (gZ (rr 1800 H_ 3) (kf 1800 H_)) gE Qqx) Qqx
def Wn:=sp US (rq 1850 H_ (iF Qqv (qg 1850 H_ 7) Qqy (jd (ld H_ 7) Bj) Qqy gE)) mf
def Wm:=rq 3600 [Qo,Qm] (dK Qoj Qok (ou [Qh,dY 3600 [Qo,Qm],ia 3600 [Qo,Qm]]) (ju 2651 [c9,Qa,Qf,Qb,dY 3600 [Qo,Qm],ia 3600 [Qo,Qm]]))
abbrev Qqz:=ju 2652 [Qf,Qb,Ce,Qa,Qo,Qm,c9,ek]
abbrev Qq0:=ou [Qh,c9,ek]
def Wl:=oC (nW 100000 Qf) (pH Qb 100000) Qqz Qq0 US Qqz Qq0
abbrev v_:=[c9,ek,eN,gr,Qm]
abbrev Qq2:=ld v_ 7
abbrev Qq3:=ld v_ 1
abbrev Qq4:=ju 2653 (sJ [Q1,c9,ek,NJ jU (cn (lX v_ 2) (kg (lX v_ 3) (lX v_ 4) (lX v_ 5) (lX v_ 6))),ld v_ 0,Qq3])
abbrev Qq5:List V:=sJ [Q1,c9,ek,ld v_ 0,Qq3]
abbrev Qq6:=ju 2654 Qq5
abbrev Qq7:=jd (pG 5 Qq3 Qm) (pG 5 gr Qm)
abbrev Qq8:=[Qf,qb,c9,ek,eN,gr]
def Dj:=pA Qp Qq (jn (ic Qm gr) (ta 1850 v_ (pB Qq2) Qq4 (gR Qq2 sj Qq4 Qq2 Q0 Qq6 (dK (ic Qm Qq3) Qq7 (ju 2652 Qq5) Qq6)))) 2655 Qq8
abbrev u?:List V:=[c9,ek,gr,jc,Qm]
abbrev Qra:=ld u? 7
abbrev Qrb:=ld u? 1
abbrev Qrc:=ez (pH H5 3518437208882) 2653 (sJ [Q1,c9,ek,NJ eN (cn (lX u? 2) (kg (lX u? 3) (lX u? 4) (lX u? 5) (lX u? 6))),ld u? 0,Qrb])
abbrev Qrd:List V:=sJ [Q1,c9,ek,eN,ld u? 0,Qrb]
abbrev Qre:=ju 2653 Qrd
abbrev Qrf:=jd (pG 5 Qrb Qm) (pG 5 jc Qm)
abbrev Qrg:=[Qf,qb,c9,ek,eN,gr,jc]
def Di:=pA Qp Qq (jn (ic Qm jc) (ta 1850 u? (pB Qra) Qrc (gR Qra sj Qrc Qra Q0 Qre (dK (ic Qm Qrb) Qrf Qre Qre)))) 2656 Qrg
def Dh:=pA Qp Qq (jn (ic Qm gr) (ta 1850 v_ (pB Qq2) Qq4 (gR Qq2 sj Qq4 Qq2 Q0 Qq6 (dK (ic Qm Qq3) Qq7 Qq6 Qq6)))) 2651 Qq8
def abY:=ou [Qh,c9,ek]
abbrev Qrh:=ju 2657 [Qf,Qb,Ce,Qa,Qo,Qm,c9,ek,eN]
abbrev Qri:=ou [c9,ek,eN]
def Wk:=oC (nW 100000 Qf) (pH Qb 100000) Qrh Qri US Qrh Qri
def Dg:=pA Qp Qq (jn (ic Qm jc) (ta 1850 u? (pB Qra) Qrc (gR Qra sj Qrc Qra Q0 Qre (dK (ic Qm Qrb) Qrf (ju 2657 Qrd) Qre)))) 2658 Qrg
def abX:=ou [c9,ek,eN]
def abW:=ju 3601 [Qf,qi,Qb]
abbrev Qrj:=ce 4 Vp
abbrev Qrk:=qa (ln (ce 5 Vp))
abbrev Qrl:=mk Qfm
abbrev Qrm:=mk (pw 1 Vp)
abbrev Qrn:=qC .bit Qfp
abbrev Qro:=mk (pw 3 Vp)
abbrev Qrp:=mU (ce 5 Vp)
def Ga:=sp Qfj (dK Qfk (qa (ln Qrj)) (sp Qrk (ju 3602 (yN [k8 jU Qrl Qrm (kg Qrn Qro Qk Qk)])) (ez Qrp 3602 (yN [k8 jU Qrl Qrm (kg Qrn Qro Qk (ce 5 Vp))]))) (dK (mU Qrj) Qrk (ju 3602 (yN [k8 jU Qrl Qrm (kg Qrn Qro Qrj Qk)])) (ez Qrp 3602 (yN [k8 jU Qrl Qrm (kg Qrn Qro Qrj (ce 5 Vp))])))) (ju 3603 [Qo,S1])
abbrev Qrq:=pH UU 1759218604440
abbrev Qrr:=mk y_
abbrev Qrs:=mk (nm Kb)
abbrev Qrt:=qC .bit (mk Qfx)
abbrev Qru:=mk (nm z!)
def F9:=pA wR Kd (dK H4 (qa (ln S0)) (pF (ln Kc) (gg Qrq 3602 [Qm,k8 c9 Qrr Qrs (kg Qrt Qru Qk Qk)]) (jn Qkz (gg Qrq 3602 [Qm,k8 c9 Qrr Qrs (kg Qrt Qru Qk Kc)]))) (dK (mU S0) (qa (ln Kc)) (gg Qrq 3602 [Qm,k8 c9 Qrr Qrs (kg Qrt Qru S0 Qk)]) (jn Qkz (gg Qrq 3602 [Qm,k8 c9 Qrr Qrs (kg Qrt Qru S0 Kc)])))) 3604 [Qm,Ce,c9]
abbrev Qrv:=kg Qfp Qro (mk (nm Qrj)) (mk (pw 5 Vp))
abbrev Qrw:=k8 jU Qrl Qk Qrv
abbrev Qrx:=k8 jU Qrl (ce 1 Vp) Qrv
def P0:=sp Qfj (dK Qfk (qa Qob) (ju 3605 [Qf,Qb,Q0,Qrw]) (ez (gZ Qob Qv) 3605 [Qf,Qb,Q0,Qrx])) (ou [Qh,Qh])
def PZ:=sp Qfj (dK Qfk (qa Qob) (ju 3606 (yN [Qrw])) (ez (gZ Qob Qv) 3606 (yN [Qrx]))) (ou [Qo,Qh])
abbrev Qry:=pH Ce 2199023255551
abbrev Qrz:=kg (mk Qfx) Qru (mk (nm S0)) (mk (nm Kc))
def PY:=tT (dK H4 Qod (gg Qry 3605 [k8 Qm Qrr Qk Qrz]) (jn Qof (gg Qry 3605 [k8 Qm Qrr Kb Qrz]))) [Qh,Qm]
def PX:=tT (dK H4 Qod (gg Qoe 3606 [Qm,k8 c9 Qrr Qk Qrz]) (jn Qof (gg Qoe 3606 [Qm,k8 c9 Qrr Kb Qrz]))) [Qm,c9]
abbrev Qr0:List V:=sJ [Qm,c9,dY 1800 Ct,ia 1800 Ct,kf 1800 Ct,rr 1800 Ct 3]
def Dm:=lZ 1800 Ct 1800 Ct 4 SZ (lZ 1850 Ct 1850 Ct 7 (rq 23450 Qr0 (ou [dY 23450 Qr0])) SZ)
abbrev Qr1:=pG 0 Qo eN
abbrev Qr2:=NJ jU (mk Qr1)
abbrev Qr3:V:=.lit 1000000
abbrev Qr4:=qC .sort Qr2
abbrev Qr5:=qC .My Qr4
abbrev Qr6:=jn (mX Qr2 Qr3) (pE (mX Qr4 Qr3) Qr5 (xb (qC .comp Qr4) Qr5 [nX .take .comp Qr4 Qa Qr5]))
abbrev Qr7:=sp (wY Qr1) SZ Qr6
abbrev Qr8:=qF Qr1 c9 SZ Qr7
abbrev G?:=ce 4 (el Qo eN)
abbrev Qsa:=qC .sort G?
abbrev Qsb:=qC .My Qsa
abbrev Qsc:=nX .sort .cat Qr2 G? Qa
abbrev Qsd:=qC .My Qsc
abbrev Qse:=pG 2 Qf eN
abbrev Qsf:=NJ jU (mk (pG 0 Qo Qse))
abbrev Qsg:=qC .sort Qsf
abbrev Qsh:=qC .My Qsg
def sB:=tK Qe5 (iF (gZ eN S1) Qla Qr8 Qld Qr8 (pz Qle Qr7 ek M6 Qr7 (pz Qlf (cZ (wY Qr1) (pF (ln G?) SZ (jn (mU G?) (jn (mX G? Qr3) (pE (mX Qsa Qr3) Qsb (xb (qC .comp Qsa) Qsb [nX .take .comp Qsa Qa Qsb]))))) (qa (ln G?)) Qr6 (jn (mX G? (.lit 17592185044416)) (jn (mX Qr2 Qr3) (jn (mX (.op .cat Qr2 G?) Qr3) (pE (mX Qsc Qr3) Qsd (xb (qC .comp Qsc) Qsd [nX .take .comp Qsc Qa Qsd])))))) ek J' (jz 900 [G?,c9] 900 [G?,c9] (pE (qE eN) Qse (dK (gZ Qse S1) (wY (pG 0 Qo Qse)) SZ (jn (mX Qsf Qr3) (pE (mX Qsg Qr3) Qsh (xb (qC .comp Qsg) Qsh [nX .take .comp Qsg Qa Qsh]))))) SZ) SZ)))
def Wp:=dK Qoj Qok SZ (ju 23501 [Qc,Qa,Qf,Qb,Qo,Qm,jU])
abbrev Qsi:=pC Fy
abbrev Qsj:=cn Qsi (dY 23400 H_)
def Nt:=sp US (rq 23400 H_ (dK Qqv Qqw (ju 23501 (KW [tV eN Qsj])) (ju 23502 (KW [NJ jU Fy,tV eN Qsj])))) (ju 23503 [Qh,eN,Qo,Qm,c9,ek])
def Ns:=sp US (rq 23400 H_ (dK Qqv Qqw (ju 23502 (KW [eN,tV gr Qsj])) (ez (gZ H5 Qhl) 23502 (KW [NJ eN Fy,tV gr Qsj])))) (ju 23503 [eN,gr,Qo,Qm,c9,ek])
abbrev IE (l:List V):=Qf::Qb::Qo::Qm::c9::ek::l
abbrev SQ:List V:=IE []
abbrev YL a0 a1:=rr a0 SQ a1
abbrev xP a0:=YL 12900 a0
abbrev Qsl:=xP 7
abbrev Qsm:=BR (xP 8) Qsl
abbrev Qsn:=[Qb,Qf,Qo,Qm,c9,ek]
def Dl:=cZ Qfk (jn (gZ qi Qv) (jz 12900 SQ 12900 SQ (ou Qj) (pE (mW 12900 SQ) Qsl (Hk (xP 8) Qsl (qF (ln Qsm) qi (pF (ln Qsm) SZ (ou [Qsm])) (ju 23503 [Qsm,Qb,xP 10,xP 11,xP 12,xP 13])))))) Qkw (nS 13000 Qsn 13000 Qsn SZ) (jn Qkx (nS 13100 Qsn 13100 Qsn SZ))
def Wo:=ju 23551 [Qb,Qf,qi,Qa]
def Nr:=qf Qp Qq (dK Qr (jd (nm Qs) Qf) mf (ju 23551 Ql0)) gE
abbrev Qso:=[Qf,Qb,BR Qo Qm]
abbrev Qsp:=ia 2400 Qso
abbrev Qsq:=kf 2400 Qso
abbrev Qsr:=[Qf,Qb,BR Qo S1]
abbrev Qss:=ia 2400 Qsr
abbrev Qst:=kf 2400 Qsr
def xp:=qf (gZ Qm S1) Qq (ta 2400 Qso Qd (jz 1500 [Qf,Qb,Qsp,Qsq] 1500 [Qf,Qb,Qsp,Qsq] (ou [Qsp,Qsq,Qa]) (ou [Qsp,Qsq,Q0])) (ou [Qsp,Qsq,Qa])) (nU S1 S1 (ta 2400 Qsr Qd (jz 1500 [Qf,Qb,Qss,Qst] 1500 [Qf,Qb,Qss,Qst] (ou [Qss,Qst,Qa]) (ou [Qss,Qst,Q0])) (ou [Qss,Qst,Qa])))
abbrev Qsu:List V:=sJ [.lit 100]
abbrev Qsv:=[Qf,Qb,dY 23600 Qsu,ia 23600 Qsu]
def aeO:=jz 100 C7 100 C7 (lZ 23600 Qsu 23600 Qsu 2 mf (rq 23500 Qsv (ju 23651 [dY 23500 Qsv,Qa,Qf,Qb,Qo,Qm,dY 23600 Qsu,ia 23600 Qsu]))) mf
abbrev Qsw:=dY 2100 [jA ek Qb,Ce]
abbrev u!:List V:=[Qo,Qm,eN,gr,Qsw]
abbrev Qsy:=[Qo,Qm,ld u! 0,ld u! 1]
abbrev Qsz:=rq 23500 Qsy (ju 23652 [Qf,Qb,dY 23500 Qsy,qi,Qa,Qo,Qm,c9,ek,ld u! 0,ld u! 1])
def aeN:=sp (ic Qb ek) (qf (pH Qb 60) PC (rq 2100 [jA ek Qb,Ce] (rq 1850 u! (rq 23550 [Qf,Qsw] (cZ (ib 23550 [Qf,Qsw]) Qsz (.and (qg 1850 u! 2) (.and (qg 1850 u! 3) (.and (qg 1850 u! 4) (.and (qg 1850 u! 5) (qg 1850 u! 6))))) (kj (qg 1850 u! 7) Qsz) gE)))) mf) mf
abbrev Qs0:=kZ c9
def aeM:=pA (gZ c9 Qm) Qk8 (jn (qE c9) (oB 23550 [Qo,jA Qf c9] 23550 [Qo,jA Qf c9] (ju 23652 (sJ [Qm,Qs0,ek,eN,gr,jc,mH,rm])))) 23651 [Qf,qb,ek,eN,gr,jc,mH,rm]
abbrev Qs1:List V:=sJ [.lit 60]
abbrev Qs2:=[Qf,Qb,dY 23600 Qs1,ia 23600 Qs1,.lit 200]
abbrev Qs3:=[Qf,Qb,ia 2650 Qs2,kf 2650 Qs2]
def Av:=jz 100 C7 100 C7 (sp (gZ sj Qc) mf (lZ 23600 Qs1 23600 Qs1 2 mf (rq 2650 Qs2 (jz 2550 Qs3 2550 Qs3 mf (rq 23500 Qs3 (ju 23701 [dY 23500 Qs3,Qc,Qa,Qf,Qb,ia 2650 Qs2,kf 2650 Qs2])))))) mf
abbrev Qs4:=nV 23701 (qu [eN])
def Dk:=sp wR (jz 1700 (qu [eN,Qo]) 1700 (qu [eN,Qo]) (jz 23550 [Qf,Qo] 23550 [Qf,Qo] (ju 23702 [Qf,Qo,Qb,Qo,Qm,c9,ek,eN,jU]) Qs4) Qs4) mf
abbrev Qs5:=[c9,ek,eN,gr,Qb]
abbrev Qs6:=mV (dY 23400 Qs5)
abbrev Qs7:=tV jc (cn Qsi Qh)
abbrev vb a0 a1:=ju a0 (IE a1)
abbrev Qs8:=ta 23400 Qs5 Qs6 (ju 23702 [Qf,jA (dY 23400 Qs5) Qa,Qo,Qm,c9,ek,eN,gr,Qs7]) (vb 23702 [eN,gr,Qs7])
def Ii:=cZ (qa (zu jc Qsi)) Qs8 (qa (nm (zt jc Qsi))) Qs8 (nR 23400 Qs5 Qs6 (jz 1700 Qs5 1700 Qs5 (ju 23701 [Qf,Qo,Q1,c9,ek,eN,gr]) gE))
def abV:=ta 5400 I! (wY (rr 5400 I! 3)) (ou [dY 5400 I!,ia 5400 I!,kf 5400 I!,Qa]) (ou [dY 5400 I!,ia 5400 I!,kf 5400 I!,Q0])
abbrev Qs9:=rX ek Q0
def abU:=cZ (wY Qs9) (ou [Qs9,eN,Qa]) (gZ Qil c9) (ou [Qs9,eN,Qa]) (ju 5051 [c9,Qm,Ce,Qa,Qs9,eN,Qf,Qb,Qo])
abbrev Xz (l:List V):=Qft::(ce 1 Qs)::Qfv::(ce 3 Qs)::l
abbrev Qta:List V:=Xz [Qj5,c9,ek]
abbrev Qtb:=pC gr
abbrev Vj:=ou [c9,ek,Qa]
abbrev Qtd:=ou [c9,ek,Q0]
def Wi:=pz Qp (tK Qq (jn Qr (lZ 5050 Qta 5050 Qta 2 (ou [dY 5050 Qta,ia 5050 Qta,Qa]) (ju 5051 (sJ [Q1,dY 5050 Qta,ia 5050 Qta,eN,gr,jc]))))) eN Q0 (pF Qc (qF Qtb jU (sp Qka Vj Qtd) Vj) Vj) (gR eN oq (pF Qc (cZ Qka Vj (gZ jc ek) (jz 13200 [gr,Qa] 13200 [gr,Qa] Vj (jn (mW 13200 [gr,Qa]) Qtd)) Vj) Vj) eN sj (pF jc (gR Qc Q0 (qF Qtb Qn5 Qtd Vj) Qc oq (qF Qtb Qn6 Qtd (gR Qtb Qn5 Qtd Qtb Qn7 Qtd (gR Qtb Qn8 Qtd Qtb Qn9 Qtd Vj))) Vj) Vj) Vj)
def abT:=ju 5101 C7
def ahU:=ou [Qb]
def abS:=ju 5151 C7
def ahT:=ou [Qf,Qb,Q0]
def abR:=ju 5201 C7
def ahS:=ou [Q0,Qf,Qb,Q0]
def abQ:=ju 5251 [Qb,Qf,qi,Qa,Qo]
abbrev Qte:=CH 1150 (Xz [])
abbrev Qtf:=ib 1150 (Xz [])
abbrev Qtg:=CH 5450 [ce 3 Qs,Qj5,Qs0]
abbrev Qth:List V:=sJ [Q1,dY 5450 [ce 3 Qs,Qj5,Qs0]]
def Wh:=rY Qp Qq (jn Qr (tK (nW 1000 Qs0) (nU Qil Qf (jn Qte (tK Qtf (ez Qtg 5251 Qth)))))) [c9,Qb]
def abP:=ju 5301 [Qf,Qa,Qb,Qo,Qm]
abbrev Qti:=pB (jL Vk)
abbrev Qtj:=[ce 3 Vk,Qm,c9]
abbrev Qtk:=lZ 5500 Qtj 5500 Qtj 2 (ou [Qo,dY 5500 Qtj,ia 5500 Qtj,Qa]) (ju 5301 [Qf,qb,Qo,dY 5500 Qtj,ia 5500 Qtj])
def Wg:=rY US PC (dK Qpi Qti (cZ (qa (zu c9 UT)) (ou (yM [Qa])) (qa (nm (zt c9 UT))) (ou (yM [Qa])) Qtk) Qtk) (yM [Q0])
def abO:=ju 5351 [Qf,Qa,Qb,Q0,Qo,Qm]
abbrev Qtl:=ou (yM [ek,Qa])
abbrev Qtm:=[ce 3 Vk,Qm,c9,ek]
abbrev Qtn:=lZ 5600 Qtm 5600 Qtm 3 (ou [Qo,dY 5600 Qtm,ia 5600 Qtm,kf 5600 Qtm,Qa]) (ju 5351 [Qf,qb,Qo,dY 5600 Qtm,ia 5600 Qtm,kf 5600 Qtm])
def Wf:=rY US PC (dK Qpi Qti (cZ (qa (zu ek UT)) Qtl (qa (nm (zt ek UT))) Qtl Qtn) Qtn) (yM [ek,Q0])
def aeL:=nS 13250 Ct 13250 Ct (ou (sJ [Qm,c9,Qa]))
def Wj:=rq 13300 SQ (dK (ib 13300 SQ) (wY (YL 13300 7)) (ou [Qb,Qo,Qm,c9,ek,Qa]) (ou [Qb,Qo,Qm,c9,ek,Q0]))
def abN:=ju 5401 [Qf,qi,Qa,Qb,Qo,Qm]
def We:=tT (jn H4 (jz 800 [y_,Kb,Qfx,z!,UU] 800 [y_,Kb,Qfx,z!,UU] (ou (qu [Qo])) (nV 5401 (qu [])))) (qu [SU])
def abM:=ju 5451 [Qb,Qf,qi,Qa,Qo]
def abL:=rY Qp Qq (jn Qr (tK (nW 1000 Qs0) (nU Qil Qf (jn Qte (tK Qtf (ez Qtg 5451 Qth)))))) [c9]
def abK:=ju 5501 [Qf,qi,Qa,Qb,Qo]
abbrev Qto:=[z!,Qm,c9]
abbrev Qtp:=lZ 5500 Qto 5500 Qto 2 (ou [dY 5500 Qto,ia 5500 Qto,Qa]) (nV 5501 [dY 5500 Qto,ia 5500 Qto])
def abJ:=tT (dK H4 (pB y_) (cZ (qa (zu c9 Kb)) Qog (qa (nm (zt c9 Kb))) Qog Qtp) Qtp) [Qm,c9,Q0]
def ahR:=ju 5551 [Qf,qi,Qa,Q0,Qb,Qo]
abbrev Qtq:=qa (zu ek Kb)
abbrev Qtr:=ou (qu [Qa])
abbrev Qts:=qa (nm (zt ek Kb))
abbrev Qtt:=[z!,Qm,c9,ek]
abbrev Qtu:=qg 5600 Qtt 3
abbrev Qtv:=ou [dY 5600 Qtt,ia 5600 Qtt,kf 5600 Qtt,Qa]
abbrev Qtw:List V:=pq [dY 5600 Qtt,ia 5600 Qtt,kf 5600 Qtt]
abbrev Qtx:=ta 5600 Qtt Qtu Qtv (ju 5551 Qtw)
def ahQ:=tT (dK H4 (pB y_) (cZ Qtq Qtr Qts Qtr Qtx) Qtx) (qu [Q0])
def abI:=ju 5601 [Qf,qi,Qa,Qb,Qo,Qm]
abbrev Qty:=ta 5600 Qtt Qtu Qtv (ju 5601 Qtw)
def abH:=tT (dK H4 (pB y_) (cZ Qtq Qtr Qts Qtr Qty) Qty) (qu [Q0])
abbrev NX (l:List V):=eN::gr::jc::mH::rm::uo::Al::l
abbrev Vi:List V:=IE (NX [])
abbrev Qt0:=rr 12050 Vi 14
abbrev ae0 (l:List V):=Qa::Qf::Qb::Qo::Qm::c9::ek::eN::gr::jc::mH::rm::l
abbrev oD a0:=ou (ae0 a0)
abbrev Qt1:=oD [uo,Al]
def NC:=rq 12050 Vi (dK (ib 12050 Vi) (jd Qt0 SU) Qt1 (vb 12001 (NX [Qf,Qt0,kZ Qt0])))
abbrev xO:=V.dG 15
abbrev Qt2:=jd (jA wQ xO) Qb
abbrev Qt3:=kZ xO
abbrev Qt4:List V:=IE (NX [wQ,Cs,Qt3])
abbrev Qt5:=wY Cs
abbrev Qt6:=kZ Cs
abbrev Qt7:List V:=IE (NX [FV wQ (mk Cs) (mk (jA wQ xO)),Qt6,Qt3])
abbrev TJ (l:List V):=Q0::Qf::Qb::Qo::Qm::c9::ek::l
abbrev Qt8:=tK Qt5 (nU w! Cs (lY (.sub w! Cs) (jn (jd (.add Cs (.sub w! Cs)) w!) (ou (TJ [eN,gr,jc,mH,rm,uo,Al,Cs,.op .fill wQ (cn (mk Cs) jU),w!])))))
def Iq:=qf (gZ xO w!) (wY xO) (sp Qt2 (ju 12001 Qt4) (tK Qt5 (ez (gZ Cs w!) 12001 Qt7))) Qt8
abbrev Qt9:List V:=IE (NX [qi,Qa])
def WS:=ju 12051 Qt9
abbrev Qua:=jd (jA Qf Cs) Qb
abbrev Qub:=oD [uo,Al,Cs]
abbrev Quc:List V:=IE (NX [wQ,Qt6])
abbrev Qud:=oD [uo,Al,SU]
def Ip:=qf (gZ Cs wQ) Qt5 (dK (qE Cs) Qua Qub (ju 12051 Quc)) Qud
abbrev Que:=rr 12150 Vi 14
def NB:=rq 12150 Vi (dK (ib 12150 Vi) (jd Que SU) Qt1 (vb 12101 (NX [Qf,Que,kZ Que])))
def Io:=qf (gZ xO w!) (wY xO) (sp Qt2 (ju 12101 Qt4) (tK Qt5 (ez (gZ Cs w!) 12101 Qt7))) Qt8
def WR:=ju 12151 Qt9
def Im:=qf (gZ Cs wQ) Qt5 (dK (qE Cs) Qua Qub (ju 12151 Quc)) Qud
def WQ:=nS 12250 Vi 12250 Vi Qt1
def WO:=ju 12251 Vi
def WN:=oD [uo,Al]
def WM:=nS 12350 Vi 12350 Vi Qt1
def WL:=ju 12351 Vi
def WK:=oD [uo,Al]
abbrev Quf:=CH 1400 [Qf,Qmk,Qb,jU,Qo]
abbrev Qug:=ib 1400 [Qf,Qmk,Qb,jU,Qo]
abbrev aeZ (l:List V):=Qa::Qf::Qb::Qo::Qm::c9::ek::l
abbrev ve a0:=ou (aeZ a0)
abbrev Vg:=ve [eN]
abbrev Qui:=nW 23 c9
abbrev Quj:=qa ek
abbrev Quk:=CH 1250 [c9]
abbrev Qul:=ib 1250 [c9]
abbrev Qum:=CH 1300 [c9]
abbrev Qun:=ib 1300 [c9]
abbrev Quo:=CH 5100 [oq,Q0]
abbrev Qup:=jn Quo (ou (TJ [eN]))
abbrev Quq:=CH 1000 [jU]
abbrev Qur:=ib 1000 [jU]
def WJ:=iF Quf Qug Vg Qe8 Vg (cZ Qui Vg Quj (dK Quk Qul (dK Qum Qun Qup (dK Quq Qur Vg Qup)) Vg) Vg)
abbrev Qus:=xc 98 vc
abbrev Qut:=CH 1400 [Q0,Qus,Qf,jU,Qb]
abbrev Quu:=ib 1400 [Q0,Qus,Qf,jU,Qb]
abbrev SO:=ve [eN,gr,jc]
abbrev Quw:=CH 1400 [Qo,Qmk,Qm,Qus,c9]
abbrev Qux:=ib 1400 [Qo,Qmk,Qm,Qus,c9]
abbrev Quy:=gZ eN Q0
abbrev Quz:=nW 23 eN
abbrev Qu0:=CH 1250 [eN]
abbrev Qu1:=ib 1250 [eN]
abbrev Qu2:=CH 1300 [eN]
abbrev Qu3:=ib 1300 [eN]
abbrev Qu4:=jn Quo (ou (TJ [eN,gr,jc]))
def WI:=dK Qut Quu SO (iF Quw Qux SO Quy SO (cZ Quz SO Qke (dK Qu0 Qu1 (dK Qu2 Qu3 Qu4 (dK Quq Qur SO Qu4)) SO) SO))
def WH:=iF Quf Qug Vg Qe8 Vg (cZ Qui Vg Quj (dK Quk Qul (dK Qum Qun Vg Qup) Vg) Vg)
def WG:=dK Qut Quu SO (iF Quw Qux SO Quy SO (cZ Quz SO Qke (dK Qu0 Qu1 (dK Qu2 Qu3 SO Qu4) SO) SO))
abbrev Vh:=ve [eN,gr]
abbrev Qu6:=jd H5 (dY 1250 [c9])
abbrev Qu7:=rq 5250 [eN,oq,Q0] (ou (TJ [eN,gr,H5,ia 5250 [eN,oq,Q0]]))
def NA:=iF Quf Qug Vh Qe8 Vh (cZ Qui Vh Quj (dK Quk Qu6 (dK Qum Qun Qu7 (dK Quq Qur Vh Qu7)) Vh) Vh)
abbrev SP:=ve [eN,gr,jc,mH]
abbrev Qu9:=jd (ln jc) (dY 1250 [eN])
abbrev Qva:=rq 5250 [jc,oq,Q0] (ou (TJ [eN,gr,jc,mH,ln jc,ia 5250 [jc,oq,Q0]]))
def Nz:=dK Qut Quu SP (iF Quw Qux SP Quy SP (cZ Quz SP Qke (dK Qu0 Qu9 (dK Qu2 Qu3 Qva (dK Quq Qur SP Qva)) SP) SP))
def Ny:=iF Quf Qug Vh Qe8 Vh (cZ Qui Vh Quj (dK Quk Qu6 (dK Qum Qun Vh Qu7) Vh) Vh)
def Nx:=dK Qut Quu SP (iF Quw Qux SP Quy SP (cZ Quz SP Qke (dK Qu0 Qu9 (dK Qu2 Qu3 SP Qva) SP) SP))
def WE:=ju 12801 [Qf,Qb,Qb]
abbrev Qvb:=jA (.ei b0) (nm MM)
abbrev Qvc:=nX .idx .sub Qf (Cj ya (mk qi) jU) Qh6
def Nw:=RQ H4 (lY (nm MM) (iF (gZ (nm MM) Qnx) (tY Qvb) (nV 12801 []) (pB Qvb) (nU qi qi (gJ (wY Qvc) (wW [qi]) (ju 12801 [Qf,Qb,pI Qo Qvc]))) (ou (wW [Qo])))) (wW [Qo])
abbrev Qvd:=jA Qf Qb
abbrev Qve:=pI Qb oq
abbrev Qvf:=pC (.op .sub Qf (Cj Fy (mk qi) jU))
abbrev Qvg:=xc 45 (qpx 62 vc)
abbrev Qvh:=ou (wW [kZ qb])
abbrev Qvi:=pC (.op .sub Qf (Cj Fy (mk Qve) jU))
def WD:=tK PC (pE (qE Qb) Qvd (dK (gZ Qvd Qnx) (jd (jA (.ei b0) Qvd) PD) (qf (gZ qi Qve) (qE qi) (gR Qvf Qvg Qvh Qvf Qn8 Qvh (ou (wW [qb]))) (nU Qve Qb (gR Qvi Qvg Qvh Qvi Qn8 Qvh (ou (wW [qb]))))) (ju 12851 [Qf,Qb,jA (.ei b0) Qvd,qb])))
abbrev Qvj:=ou (wW [Qm])
def Nv:=qf (qE Qm) Qq (lY Qlz (iF (gZ Qlz Qnx) (jd (jA (.ei b0) Qlz) sj) (ju 12851 Ql0) (jd (jA (.ei b0) Qlz) Bj) (qF Qo Bj (ju 12851 Ql0) Qvj) Qvj)) Qvj
abbrev Qvk:=ce 2 (el Qb Qo)
abbrev Qvl:=el Qvk ek
abbrev G_:=jL Qvl
abbrev Qvn:=mV (ce 6 Qvl)
abbrev Qvo:=el (ce 6 Qvl) Qa
abbrev Qvp:=[jL Qvo,ce 1 Qvo,pw 2 Qvo,ce 3 Qvo,eN]
abbrev Qvq:=CH 1950 Qvp
abbrev u_:=pw 3 Qvl
abbrev Qvs:=kZ ek
abbrev Qvt:=ib 1950 Qvp
abbrev Qvu:=oD [pw 4 Qvl,eN]
def uB:=mT (jn z? (jn Qfd (tK z_ (iF (ic ek Qvk) (jd G_ sj) (jn Qvn (pE Qvq u_ (jn (gZ u_ H5) (oD [Qvs,FV eN (mk u_) (mk (dY 1950 Qvp))])))) (jd G_ Bj) (k7 Qvn Qvq Qvt Qvu (oD [Qvs,eN])) (gR G_ PD Qvu G_ M9 (lY u_ (jn (gZ u_ H5) (oD [Qvs,FV eN (mk u_) (mk (pw 5 Qvl))]))) (pE (jd G_ x_) u_ (dK (gZ u_ H5) (pD (jA eN u_)) (oD [Qvs,FV eN (mk u_) (mk (rX (jA eN u_) Q0))]) Qvu)))))))
abbrev Qvv:=[Qf,Qb,gr,Qo,Qm,c9,ek,eN]
abbrev Qvw:=rr 400 Qvv 6
abbrev Qvx:=el Qvk mH
abbrev Qvy:=tY (jL Qvx)
abbrev Qvz:=jd (pw 1 Qvx) M6
abbrev Qv0:=kf 400 Qvv
abbrev G!:=rr 400 Qvv 4
abbrev Qv2:=pw 3 Qvx
abbrev Qv3:=wY Qv2
abbrev Vf:=jd Qvw sj
abbrev Qv5:=ia 400 Qvv
abbrev UR:=rr 400 Qvv 3
abbrev Qv7:=rr 400 Qvv 5
abbrev Qv8:=dY 400 Qvv
abbrev Qv9:=kZ mH
abbrev NY (l:List V):=Qa::Qf::Qb::Qo::Qm::c9::ek::eN::gr::jc::mH::rm::uo::Al::wQ::Cs::Qv5::Qv0::UR::G!::Qv7::Qvw::Qv8::l
abbrev qG a0:=ou (NY a0)
abbrev Qwa:=qG [Qv9,rm,J',UR,wQ,Qa]
abbrev Qwb:=qG [Qv9,rm,uo,Al,wQ,Qa]
abbrev Qwc:=ic Qv2 rm
abbrev Qwd:=FV rm (mk Qv2) (mk G!)
abbrev Qwe:=qG [Qv9,Qwd,J',UR,wQ,Qa]
abbrev Qwf:=qG [Qv9,Qwd,uo,Al,wQ,Qa]
abbrev Qwg:=pw 4 Qvx
abbrev Qwh:=qG [Qwg,rm,J',UR,wQ,Qa]
abbrev Qwi:=qG [Qwg,rm,uo,Al,wQ,Qa]
abbrev Qwj:=qG [Qwg,Qwd,J',UR,wQ,Qa]
abbrev Qwk:=qG [Qwg,Qwd,uo,Al,wQ,Qa]
abbrev Qwl:=jd Qv0 (.lit 15)
abbrev Qwm:=sp Vf (gJ Qwl (NY [Qv9,rm,Qjf,UR,G!,Qa]) Qwa) Qwb
abbrev TL (l:List V):=uo::Al::wQ::Cs::Qa::Qa::Qa::Qa::Qa::Qvw::gr::mH::l
def fc:=rq 400 Qvv (mT (iF (ic Qo jc) (qa Qvw) (qF Qm Bj (gJ (gZ Qje Qt6) (ae0 (TL [rm,uo,Al,wQ,Qje])) (oD (TL [rm,uo,Al,wQ,Qt6]))) (oD (TL [rm,uo,Al,wQ,Cs]))) (qa uo) (jn Qfd (tK Qkt (dK (ic mH Qvk) Qvy (cZ Qvz (cZ (jd Qv0 M6) (oC (tY G!) Qv3 (sp Vf Qwa Qwb) (dK Qwc Vf Qwe Qwf) Qv3 (sp Vf Qwh Qwi) (dK Qwc Vf Qwj Qwk)) Qv3 (sp Vf (gJ Qwl (NY [Qwg,rm,Qjf,UR,G!,Qa]) Qwh) Qwi) (dK Qwc Vf (gJ Qwl (NY [Qwg,Qwd,Qjf,UR,G!,Qa]) Qwj) Qwk)) Qv3 Qwm (dK Qwc Vf (gJ Qwl (NY [Qv9,Qwd,Qjf,UR,G!,Qa]) Qwe) Qwf)) Qwm))) (qG [mH,rm,Qa,Qa,Qa,Qa])))
abbrev Qwn:=oD [pw 4 Qvl]
def Ij:=mT (jn z? (jn Qfd (tK z_ (dK (ic ek Qvk) (jd G_ sj) (jn Qvn (jn Qvq fl)) (gR G_ Bj (k7 Qvn Qvq Qvt Qwn (oD [Qvs])) G_ PD Qwn (tK (jd G_ M9) (jn (jd G_ x_) fl)))))))
abbrev Qwo:=qG [Qv9,J',UR,wQ,Qa]
abbrev Qwp:=qG [Qv9,uo,Al,wQ,Qa]
abbrev Qwq:=qG [Qwg,J',UR,wQ,Qa]
abbrev Qwr:=qG [Qwg,uo,Al,wQ,Qa]
abbrev Qws:=sp Vf (gJ Qwl (NY [Qv9,Qjf,UR,G!,Qa]) Qwo) Qwp
def iJ:=rq 400 Qvv (mT (iF (ic Qo jc) (qa Qvw) (qF Qm Bj (gJ (gZ Qje Qt6) (ae0 (TL [uo,Al,wQ,Qje])) (oD (TL [uo,Al,wQ,Qt6]))) (oD (TL [uo,Al,wQ,Cs]))) (qa uo) (jn Qfd (tK Qkt (dK (ic mH Qvk) Qvy (sp Qvz (qF Qv0 M6 (sp (tY G!) (dK Qv3 Vf Qwo Qwp) (dK Qv3 Vf Qwq Qwr)) (dK Qv3 Vf (gJ Qwl (NY [Qwg,Qjf,UR,G!,Qa]) Qwq) Qwr)) (jn Qv3 Qws)) Qws))) (qG [mH,Qa,Qa,Qa,Qa])))
abbrev vf a0:=YL 12950 a0
abbrev Qwt:=vf 7
def Nu:=rq 12950 SQ (dK (ib 12950 SQ) (jd Qwt SU) (ve [vf 8,vf 9,vf 10,vf 11,vf 12]) (vb 12901 [Qf,Qwt,kZ Qwt,vf 8,vf 9,vf 10,vf 11,vf 12]))
abbrev Qwu:=pC (mk (jA eN jc))
abbrev Vc:=[mH,rm,uo,Al,wQ]
abbrev Qww:=kZ jc
abbrev Qwx:=FV eN (mk gr) (mk (jA eN jc))
abbrev Qwy:=kZ gr
abbrev Vb:=[zt Qb Qwu,mH,rm,uo,Al,wQ]
abbrev oF a0 a1:=rr 26700 a0 a1
abbrev oE a0 a1:=rr 26750 a0 a1
def Il:=qf (gZ jc H5) Qka (pF (zu Qb Qwu) (lZ 26700 Vc 26700 Vc 5 (vb 12901 [eN,gr,Qww,dY 26700 Vc,oF Vc 1,oF Vc 2,oF Vc 3,oF Vc 4]) (tK Qk9 (ez (gZ gr H5) 12901 (IE [Qwx,Qwy,Qww,dY 26700 Vc,oF Vc 1,oF Vc 2,oF Vc 3,oF Vc 4])))) (lZ 26750 Vb 26750 Vb 5 (vb 12901 [eN,gr,Qww,dY 26750 Vb,oE Vb 1,oE Vb 2,oE Vb 3,oE Vb 4]) (tK Qk9 (ez (gZ gr H5) 12901 (IE [Qwx,Qwy,Qww,dY 26750 Vb,oE Vb 1,oE Vb 2,oE Vb 3,oE Vb 4]))))) (tK Qk9 (nU H5 gr (lY (.sub H5 gr) (jn (jd (.add gr (.sub H5 gr)) H5) (ou (TJ [gr,.op .fill eN (cn (mk gr) jU),mH,rm,uo,Al,wQ]))))))
def WC:=vb 12951 [qi,Qa,Qf,Qo,Qm,c9,ek]
abbrev Qw0:=jA Qf gr
abbrev Ve:=[jc,mH,rm,uo,Al]
abbrev Vd:=[zt Qb (pC (mk Qw0)),jc,mH,rm,uo,Al]
def Ik:=rY (gZ gr eN) Qk9 (dK Qli (qa (zu Qb (pC (mk Qw0)))) (lZ 26700 Ve 26700 Ve 5 (ve [gr,dY 26700 Ve,oF Ve 1,oF Ve 2,oF Ve 3,oF Ve 4]) (vb 12951 [eN,Qwy,dY 26700 Ve,oF Ve 1,oF Ve 2,oF Ve 3,oF Ve 4])) (lZ 26750 Vd 26750 Vd 5 (ve [gr,dY 26750 Vd,oE Vd 1,oE Vd 2,oE Vd 3,oE Vd 4]) (vb 12951 [eN,Qwy,dY 26750 Vd,oE Vd 1,oE Vd 2,oE Vd 3,oE Vd 4]))) (aeZ [SU,jc,mH,rm,uo,Al])
abbrev Qw3:=ve []
def WB:=nS 13050 SQ 13050 SQ Qw3
def WA:=ju 13051 SQ
def Wz:=ve []
def Wy:=nS 13150 SQ 13150 SQ Qw3
def Wx:=ju 13151 SQ
def Wv:=ve []
def Wu:=jz 1000 Qj 1000 Qj Qbb Qd1
def aeQ:=ju 13251 Ct
def aeP:=ou (wW (yM []))
def Wt:=vb 13301 [qi,Qa]
abbrev Qw4:=ve [gr]
def Dn:=rY (gZ gr eN) Qk9 (jn Qli (jz 900 [Qb,Qw0] 900 [Qb,Qw0] (jz 1700 (yM [ek,Qw0]) 1700 (yM [ek,Qw0]) (vb 13301 [eN,Qwy]) Qw4) Qw4)) (aeZ [SU])
end
theorem Zo:S.tree 9000=KC:=dj
theorem Ml:S.tree 9001=rD:=dj
theorem acU:S.tree 9002=abG:=dj
theorem acT:S.tree 9003=abF:=dj
theorem Zn:S.tree 9004=Wc:=dj
theorem Zm:S.tree 9005=Wb:=dj
theorem Zl:S.tree 9006=Wa:=dj
theorem Zk:S.tree 9007=V9:=dj
theorem Zj:S.tree 9050=rC:=dj
theorem Zi:S.tree 9051=V8:=dj
theorem Zh:S.tree 9052=V7:=dj
theorem Zg:S.tree 9053=V6:=dj
theorem acS:S.tree 9054=abE:=dj
theorem acR:S.tree 9055=ahJ:=dj
theorem acQ:S.tree 9056=ahI:=dj
theorem acP:S.tree 9057=abD:=dj
theorem acO:S.tree 9058=ahH:=dj
theorem acN:S.tree 9059=ahG:=dj
theorem Mk:S.tree 9060=Bp:=dj
theorem acM:S.tree 9061=abC:=dj
theorem acL:S.tree 9062=abB:=dj
theorem Mj:S.tree 9063=Bo:=dj
theorem acK:S.tree 9064=abA:=dj
theorem acJ:S.tree 9065=abz:=dj
theorem Mi:S.tree 9066=Bn:=dj
theorem acI:S.tree 9067=aby:=dj
theorem acH:S.tree 9068=abx:=dj
theorem Zf:S.tree 9069=V5:=dj
theorem Ze:S.tree 9070=V4:=dj
theorem Zd:S.tree 9071=V3:=dj
theorem Zc:S.tree 9072=V2:=dj
theorem Zb:S.tree 9073=V1:=dj
theorem Za:S.tree 9074=V0:=dj
theorem akB:S.tree 100=t100:=dj
theorem aaV:S.tree 101=t101:=dj
theorem aaU:S.tree 102=t102:=dj
theorem agm:S.tree 103=t103:=dj
theorem agj:S.tree 150=t150:=dj
theorem aaT:S.tree 151=t151:=dj
theorem ama:S.tree 250=t250:=dj
theorem al9:S.tree 251=t251:=dj
theorem aaS:S.tree 300=Q!:=dj
theorem agd:S.tree 301=Ti:=dj
theorem agc:S.tree 302=aeK:=dj
theorem aaR:S.tree 350=Q':=dj
theorem aaQ:S.tree 351=Tf:=dj
theorem agb:S.tree 400=iP:=dj
theorem akf:S.tree 450=ahV:=dj
theorem aga:S.tree 451=aeJ:=dj
theorem af9:S.tree 452=aeI:=dj
theorem af8:S.tree 453=aeH:=dj
theorem af7:S.tree 454=aeG:=dj
theorem af6:S.tree 455=aeF:=dj
theorem af5:S.tree 456=aeE:=dj
theorem af4:S.tree 500=Q_:=dj
theorem Zu:S.tree 501=Te:=dj
theorem ake:S.tree 550=P?:=dj
theorem af3:S.tree 551=aeD:=dj
theorem akd:S.tree 552=akW:=dj
theorem akc:S.tree 553=akV:=dj
theorem aj9:S.tree 600=ahP:=dj
theorem af2:S.tree 650=aeC:=dj
theorem aj8:S.tree 700=ahO:=dj
theorem aj7:S.tree 750=ahN:=dj
theorem aj6:S.tree 800=ahM:=dj
theorem aj5:S.tree 850=ahL:=dj
theorem af1:S.tree 851=P!:=dj
theorem aj4:S.tree 900=ahK:=dj
theorem aj3:S.tree 950=ahF:=dj
theorem af0:S.tree 951=aeB:=dj
theorem afZ:S.tree 952=aeA:=dj
theorem Cn:S.tree 953=qd:=dj
theorem Cm:S.tree 954=qc:=dj
theorem adB:S.tree 1000=acb:=dj
theorem adA:S.tree 1050=P7:=dj
theorem adz:S.tree 1100=aca:=dj
theorem ady:S.tree 1101=aih:=dj
theorem e_:S.tree 1102=WT:=dj
theorem adx:S.tree 1150=ab9:=dj
theorem adw:S.tree 1200=ab8:=dj
theorem adv:S.tree 1250=ab7:=dj
theorem adu:S.tree 1300=ab6:=dj
theorem adt:S.tree 1350=ab5:=dj
theorem ads:S.tree 1400=ab4:=dj
theorem ZO:S.tree 1450=Ws:=dj
theorem ZM:S.tree 1451=P6:=dj
theorem ZL:S.tree 1452=P5:=dj
theorem adr:S.tree 1500=ab3:=dj
theorem ZJ:S.tree 1501=Wr:=dj
theorem adq:S.tree 1550=ab2:=dj
theorem adp:S.tree 1600=ab1:=dj
theorem ado:S.tree 1650=ab0:=dj
theorem ZI:S.tree 1700=P4:=dj
theorem adn:S.tree 1750=Gc:=dj
theorem ZH:S.tree 1751=Wq:=dj
theorem ZG:S.tree 1800=P3:=dj
theorem B3:S.tree 1850=mr:=dj
theorem akA:S.tree 1900=aif:=dj
theorem akz:S.tree 1901=aie:=dj
theorem aky:S.tree 1902=aid:=dj
theorem akx:S.tree 1903=aic:=dj
theorem akw:S.tree 1904=aib:=dj
theorem akv:S.tree 1905=aia:=dj
theorem aku:S.tree 1906=ah9:=dj
theorem akt:S.tree 1907=ah8:=dj
theorem akr:S.tree 1908=ah7:=dj
theorem akq:S.tree 1909=ah6:=dj
theorem akp:S.tree 1910=ah5:=dj
theorem ako:S.tree 1911=ah4:=dj
theorem akn:S.tree 1912=ah3:=dj
theorem akm:S.tree 1913=ah2:=dj
theorem akl:S.tree 1914=ah1:=dj
theorem akk:S.tree 1915=ah0:=dj
theorem akj:S.tree 1916=ahZ:=dj
theorem aki:S.tree 1917=ahY:=dj
theorem akh:S.tree 1918=ahX:=dj
theorem R6:S.tree 1950=P2:=dj
theorem akg:S.tree 2100=ahW:=dj
theorem R5:S.tree 2400=P1:=dj
theorem R4:S.tree 2401=Bq:=dj
theorem ZC:S.tree 2402=Gb:=dj
theorem adm:S.tree 2550=abZ:=dj
theorem ZB:S.tree 2551=Wn:=dj
theorem adl:S.tree 2650=Wm:=dj
theorem ZA:S.tree 2651=Wl:=dj
theorem EU:S.tree 2652=Dj:=dj
theorem ET:S.tree 2653=Di:=dj
theorem ES:S.tree 2654=Dh:=dj
theorem adk:S.tree 2655=abY:=dj
theorem Zz:S.tree 2656=Wk:=dj
theorem ER:S.tree 2657=Dg:=dj
theorem adj:S.tree 2658=abX:=dj
theorem adi:S.tree 3600=abW:=dj
theorem adh:S.tree 3601=Ga:=dj
theorem Zx:S.tree 3602=F9:=dj
theorem adg:S.tree 3603=P0:=dj
theorem adf:S.tree 3604=PZ:=dj
theorem Zw:S.tree 3605=PY:=dj
theorem Zv:S.tree 3606=PX:=dj
theorem Pa:S.tree 23400=Dm:=dj
theorem vq:S.tree 23450=sB:=dj
theorem ZF:S.tree 23500=Wp:=dj
theorem O9:S.tree 23501=Nt:=dj
theorem O8:S.tree 23502=Ns:=dj
theorem JO:S.tree 23503=Dl:=dj
theorem ZE:S.tree 23550=Wo:=dj
theorem O7:S.tree 23551=Nr:=dj
theorem O6:S.tree 23600=xp:=dj
theorem agi:S.tree 23650=aeO:=dj
theorem agh:S.tree 23651=aeN:=dj
theorem agf:S.tree 23652=aeM:=dj
theorem ZD:S.tree 23700=Av:=dj
theorem O5:S.tree 23701=Dk:=dj
theorem JN:S.tree 23702=Ii:=dj
theorem ade:S.tree 5000=abV:=dj
theorem adb:S.tree 5050=abU:=dj
theorem Zt:S.tree 5051=Wi:=dj
theorem ada:S.tree 5100=abT:=dj
theorem ac9:S.tree 5101=ahU:=dj
theorem ac8:S.tree 5150=abS:=dj
theorem ac7:S.tree 5151=ahT:=dj
theorem ac6:S.tree 5200=abR:=dj
theorem ac5:S.tree 5201=ahS:=dj
theorem ac4:S.tree 5250=abQ:=dj
theorem Zs:S.tree 5251=Wh:=dj
theorem ac3:S.tree 5300=abP:=dj
theorem Zr:S.tree 5301=Wg:=dj
theorem ac2:S.tree 5350=abO:=dj
theorem Zq:S.tree 5351=Wf:=dj
theorem age:S.tree 26700=aeL:=dj
theorem Zy:S.tree 26750=Wj:=dj
theorem ac1:S.tree 5400=abN:=dj
theorem Zp:S.tree 5401=We:=dj
theorem ac0:S.tree 5450=abM:=dj
theorem acZ:S.tree 5451=abL:=dj
theorem acY:S.tree 5500=abK:=dj
theorem acX:S.tree 5501=abJ:=dj
theorem akb:S.tree 5550=ahR:=dj
theorem aka:S.tree 5551=ahQ:=dj
theorem acW:S.tree 5600=abI:=dj
theorem acV:S.tree 5601=abH:=dj
theorem Ph:S.tree 12000=NC:=dj
theorem JR:S.tree 12001=Iq:=dj
theorem d?:S.tree 12050=WS:=dj
theorem Pg:S.tree 12051=Ip:=dj
theorem Pf:S.tree 12100=NB:=dj
theorem JQ:S.tree 12101=Io:=dj
theorem d!:S.tree 12150=WR:=dj
theorem Pe:S.tree 12151=Im:=dj
theorem d_:S.tree 12200=WQ:=dj
theorem c!:S.tree 12250=WO:=dj
theorem c_:S.tree 12251=WN:=dj
theorem b?:S.tree 12300=WM:=dj
theorem b!:S.tree 12350=WL:=dj
theorem b_:S.tree 12351=WK:=dj
theorem a!:S.tree 12400=WJ:=dj
theorem a_:S.tree 12450=WI:=dj
theorem Z9:S.tree 12500=WH:=dj
theorem Z8:S.tree 12550=WG:=dj
theorem Z7:S.tree 12600=NA:=dj
theorem Z6:S.tree 12650=Nz:=dj
theorem Z5:S.tree 12700=Ny:=dj
theorem Z4:S.tree 12750=Nx:=dj
theorem Z3:S.tree 12800=WE:=dj
theorem Z2:S.tree 12801=Nw:=dj
theorem Z1:S.tree 12850=WD:=dj
theorem Z0:S.tree 12851=Nv:=dj
theorem ZQ:S.tree 14000=uB:=dj
theorem ZN:S.tree 14500=fc:=dj
theorem ZP:S.tree 14050=Ij:=dj
theorem ZK:S.tree 14550=iJ:=dj
theorem Pd:S.tree 12900=Nu:=dj
theorem JP:S.tree 12901=Il:=dj
theorem ZZ:S.tree 12950=WC:=dj
theorem Pc:S.tree 12951=Ik:=dj
theorem ZY:S.tree 13000=WB:=dj
theorem ZX:S.tree 13050=WA:=dj
theorem ZW:S.tree 13051=Wz:=dj
theorem ZV:S.tree 13100=Wy:=dj
theorem ZU:S.tree 13150=Wx:=dj
theorem ZT:S.tree 13151=Wv:=dj
theorem ZS:S.tree 13200=Wu:=dj
theorem agl:S.tree 13250=aeQ:=dj
theorem agk:S.tree 13251=aeP:=dj
theorem ZR:S.tree 13300=Wt:=dj
theorem Pb:S.tree 13301=Dn:=dj
end Go.As.Try
end
section
namespace Go.As.Try
open Go hiding Stat Spec shape
open Go.As Go.Proofs
set_option maxRecDepth 100000
structure PT where
 j:Nat
 t:T Lf
 e:S.tree j=t
def pT {j:Nat} {t:T Lf} (e:S.tree j=t):PT:=⟨j,t,e⟩
noncomputable def trees:List PT:=[pT Zo,pT Ml,pT acU,pT acT,pT Zn,pT Zm,pT Zl,pT Zk,pT Zj,pT Zi,pT Zh,pT Zg,pT acS,pT acR,pT acQ,pT acP,pT acO,pT acN,pT Mk,pT acM,pT acL,pT Mj,pT acK,pT acJ,pT Mi,pT acI,pT acH,pT Zf,pT Ze,pT Zd,pT Zc,pT Zb,pT Za,pT akB,pT aaV,pT aaU,pT agm,pT agj,pT aaT,pT ama,pT al9,pT aaS,pT agd,pT agc,pT aaR,pT aaQ,pT agb,pT akf,pT aga,pT af9,pT af8,pT af7,pT af6,pT af5,pT af4,pT Zu,pT ake,pT af3,pT akd,pT akc,pT aj9,pT af2,pT aj8,pT aj7,pT aj6,pT aj5,pT af1,pT aj4,pT aj3,pT af0,pT afZ,pT Cn,pT Cm,pT adB,pT adA,pT adz,pT ady,pT e_,pT adx,pT adw,pT adv,pT adu,pT adt,pT ads,pT ZO,pT ZM,pT ZL,pT adr,pT ZJ,pT adq,pT adp,pT ado,pT ZI,pT adn,pT ZH,pT ZG,pT B3,pT akA,pT akz,pT aky,pT akx,pT akw,pT akv,pT aku,pT akt,pT akr,pT akq,pT akp,pT ako,pT akn,pT akm,pT akl,pT akk,pT akj,pT aki,pT akh,pT R6,pT akg,pT R5,pT R4,pT ZC,pT adm,pT ZB,pT adl,pT ZA,pT EU,pT ET,pT ES,pT adk,pT Zz,pT ER,pT adj,pT adi,pT adh,pT Zx,pT adg,pT adf,pT Zw,pT Zv,pT Pa,pT vq,pT ZF,pT O9,pT O8,pT JO,pT ZE,pT O7,pT O6,pT agi,pT agh,pT agf,pT ZD,pT O5,pT JN,pT ade,pT adb,pT Zt,pT ada,pT ac9,pT ac8,pT ac7,pT ac6,pT ac5,pT ac4,pT Zs,pT ac3,pT Zr,pT ac2,pT Zq,pT age,pT Zy,pT ac1,pT Zp,pT ac0,pT acZ,pT acY,pT acX,pT akb,pT aka,pT acW,pT acV,pT Ph,pT JR,pT d?,pT Pg,pT Pf,pT JQ,pT d!,pT Pe,pT d_,pT c!,pT c_,pT b?,pT b!,pT b_,pT a!,pT a_,pT Z9,pT Z8,pT Z7,pT Z6,pT Z5,pT Z4,pT Z3,pT Z2,pT Z1,pT Z0,pT ZQ,pT ZN,pT ZP,pT ZK,pT Pd,pT JP,pT ZZ,pT Pc,pT ZY,pT ZX,pT ZW,pT ZV,pT ZU,pT ZT,pT ZS,pT agl,pT agk,pT ZR,pT Pb]
theorem VT:trees.all (fun p=>MX [] p.t)=true:=aa
theorem agv:adD (lim 536 feT) 536 (trees.map PT.j)=true:=aa
theorem M! (j:Nat):MX [] (S.tree j)=true:=by
 cases h:ud St.t j with
 |none=>exact S8 (S:=St) h
 |some e=> obtain⟨p,hp,rfl⟩:=aH.1 (cov agv (fun k hk=>X2 hk) h);rw [p.e];exact aZ.1 VT p hp
noncomputable def L:oa:=oL S.tree
theorem bL (j:Nat) (xs:List Int):L j xs=fin L (ew (cT L (low xs)) (S.tree j)):=aff M! j xs
end Go.As.Try
end
section
namespace Go.As.Try
open Go hiding Stat
open Go.As Go.Proofs Go.RowKit Go.ChangeShapes Go.WideShapes Go.ChangeAt
open Go.Proofs.YtlgfoolepdjmoaaGreatDoor
set_option maxRecDepth 100000
theorem own:ownKnob Tryz.prog.godebug=none:=aa
theorem laidOut:laidOutB Tryz.prog=true:=aa
def aab:TypeId->Option Nat:=BV (aiK.take 12)
def alh (P:Program) (own:TypeId->Option Nat) (l:List (Nat×Nat)):Bool:=l.all fun p=>match P.underlying p.1 with
 |some (.slice e)=>decide (ub P own 8 e=some (kU p.2))&&Nat.beq (P.cellsOf e) (kU p.2).length&&Nat.ble (pW p.2) (P.bytesOf e)&&Nat.ble 1 (kU p.2).length
 |_=>false
theorem Hv {t i:Nat}: ∀{l:List (Nat×Nat)},BV l t=some i->(t,i)∈l
 |[],h=>by simp [BV] at h
 |(a,k)::l,h=>by
  unfold BV at h;split at h
  ·rename_i hb;have:=aq hb;simp only [ah] at h;subst this h;simp
  ·exact anG _ (Hv h)
theorem aad {P:Program} {l:List (Nat×Nat)} (h:alh P (BV l) l=true):A! P (BV l):=by
 intro t i fP;have:=aZ.1 h _ (Hv fP);simp only at this;split at this
 ·rename_i e he;simp only [an,decide_eq_true_eq] at this;exact⟨e,8,he,this.1.1.1,aq this.1.1.2,am9 this.1.2,am9 this.2⟩
 ·simp at this
theorem aaa:A! Tryz.prog aab:=aad aa
theorem aaz {Z':World} (h:Z'.ShapedOpen Tryz.prog):base.ok (NQ Z') Z'.heap:=by obtain⟨m,hm⟩:=LaysM.n144.s1_3 Tryz.laysM144 Z' h;exact⟨SA hm,m,by rw [<- lF]; exact hm⟩
def QU:DataW Unit->Value
 | .lit (.int k n)=> .int k n
 |_=>undef
def agx:DataW Unit->Array Value
 | .agg l=>(l.map QU).toArray
 |d=> #[QU d]
def ai1 (d:DataW Unit):Obj->Obj
 | .cells _ t f=> .cells (agx d) t f
 |o=>o
noncomputable def afg (h:Array Obj) (x:String×DataW Unit):Array Obj:=match Tryz.prog.globalNamed x.1 with
 |some g=>h.modify g (ai1 x.2)
 |none=>h
noncomputable def AR (os:Os):World:=
 { World.holding Tryz.prog os ⟨#[],#[],[]⟩ with heap:=Rows.waitsStuckRow.laid.foldl afg (World.holding Tryz.prog os ⟨#[],#[],[]⟩).heap }
theorem Fl {ro:Nat->Prop} {h:Array Obj} {i:Nat} {d:D} {v:Value} (r:Rd ro h (.sl i) d v):vG ro h (.sl i) (enc d) v:=by show Rd ro h (.sl i) (dec (enc d)) v;rw [bB];exact r
theorem r_ {ro:Nat->Prop} {h:Array Obj} {u:Value} (a:abm [.one .bool] [1] ro h u):u= .bool true:=by
 obtain⟨us,fl,hs,hc,hu⟩:=a
 cases hs with
 |one c v hs=> cases hs;simp only [oG,RK.flat,anc,aR,ay] at hc;obtain⟨n,D_,u',gx,U,Z,h3,h4⟩:=hc;simp only [List.cons.injEq] at U Z;obtain⟨rfl,_⟩:=U;obtain⟨rfl,_⟩:=Z;rw [hu];exact h3
theorem n? {g j:Nat} {e:Am} (hn:j∈S.Cg g) (he:S.bK j=some e) (hp:e.pat=none) (hr:e.lj= [.one .bool]) {xs:List Int} (hL:L j xs=some [1]) {Z':World} (xJ:Z'.ShapedOpen Tryz.prog) {vals fl:List Value} (U:Shape e.Fu vals fl) (Z:gP (NQ Z') Z'.heap (oG e.Fu) xs fl) :
 Calls Tryz.prog g vals.toArray Z' fun en W'=>en= .returned (.bool true)/\Below Z'.heap.size Z' W':=by
 obtain⟨n,jw⟩:=IV hL;refine (WU aeR hn he hp n xs [1] jw (NQ Z') Z' vals fl (fun _ h=>h) (aaz xJ) U Z).mono fun en W' ⟨u,hu,hb,me,_,_,_,ha⟩=>?_;rw [hr] at ha;rw [r_ ha] at hu;exact⟨hu,hb⟩
end Go.As.Try
end
section
namespace Go.As
def prune (Z_ N:List SB):T Lf->T Lf
 | .fail=> .fail
 | .ret l=> .ret l
 | .split c x y=>match Z_.contains c with
   |true=>prune Z_ N x
   |false=>match N.contains c with
    |true=>prune Z_ N y
    |false=> .split c (prune Z_ N x) (prune Z_ N y)
def zY (ρ:Nat->Int):List SB->Prop
 |[]=>True
 |c::l=>c.den ρ=true/\zY ρ l
def zW (ρ:Nat->Int):List SB->Prop
 |[]=>True
 |c::l=> ¬c.den ρ=true/\zW ρ l
theorem Vy {ρ:Nat->Int}: ∀{l:List SB},zY ρ l->∀c∈l,c.den ρ=true
 |[],_,c,h=>by simp at h
 |a::l,hz,c,h=>by
  rcases ax.1 h with rfl|h
  ·exact hz.1
  ·exact Vy hz.2 c h
theorem VB {ρ:Nat->Int}: ∀{l:List SB},zW ρ l->∀c∈l,c.den ρ=false
 |[],_,c,h=>by simp at h
 |a::l,hz,c,h=>by
  rcases ax.1 h with rfl|h
  ·simpa using hz.1
  ·exact VB hz.2 c h
theorem Vz {ρ:Nat->Int}: ∀{a b:List SB},zY ρ a->zY ρ b->zY ρ (a++b)
 |[],_,_,h=>h
 |_::_,_,h,h'=> ⟨h.1,Vz h.2 h'⟩
theorem VC {ρ:Nat->Int}: ∀{a b:List SB},zW ρ a->zW ρ b->zW ρ (a++b)
 |[],_,_,h=>h
 |_::_,_,h,h'=> ⟨h.1,VC h.2 h'⟩
theorem dF {ρ:Nat->Int} {Z_ N:List SB} (h:zY ρ Z_/\zW ρ N): ∀t,ew ρ (prune Z_ N t)=ew ρ t
 | .fail=>rfl
 | .ret l=>rfl
 | .split c x y=>by
   simp only [prune,ew];split
   ·rename_i h';rw [Vy h.1 c (aoY.1 h'),ag rfl];exact dF h x
   ·split
    ·rename_i h';rw [VB h.2 c (aoY.1 h'),af ad];exact dF h y
    ·simp only [ew,dF h x,dF h y]
theorem ee {ρ:Nat->Int} (Z_ N:List SB) {t:T Lf} {R:RS} (u:T Lf) (h:zY ρ Z_/\zW ρ N) (k:prune Z_ N t=u) (h':ew ρ u=R):ew ρ t=R:=by rw [<- dF h t,k,h']
theorem zz :
 (∀{ρ:Nat->Int} (c:SB) (a b:T Lf),ew ρ (sp c a b)=if c.den ρ=true then ew ρ a else ew ρ b)/\
 (∀{ρ:Nat->Int} (l:List V),ew ρ (ou l)= .out (l.map (V.den ρ)))/\
 (∀{ρ:Nat->Int} (j:Nat) (l:List V),ew ρ (ju j l)= .jump j (l.map (V.den ρ)))/\
 (∀{ρ:Nat->Int},ew ρ fl= .no)/\
 (∀{ρ:Nat->Int} (a b:V),((SB.lt a b).den ρ=true)=(a.den ρ<b.den ρ))/\
 (∀{ρ:Nat->Int} (a b:V),((SB.eq a b).den ρ=true)=(a.den ρ=b.den ρ))/\
 (∀(F:oa) (lo:Nat->Int),(V.dG 0).den (cT F lo)=lo 0)/\
 (∀(F:oa) (lo:Nat->Int),(V.dG 1).den (cT F lo)=lo 1)/\
 (∀(F:oa) (lo:Nat->Int),(V.dG 2).den (cT F lo)=lo 2)/\
 (∀(F:oa) (lo:Nat->Int),(V.dG 3).den (cT F lo)=lo 3)/\
 (∀(F:oa) (lo:Nat->Int),(V.dG 4).den (cT F lo)=lo 4)/\
 (∀(F:oa) (lo:Nat->Int),(V.dG 5).den (cT F lo)=lo 5)/\
 (∀(F:oa) (lo:Nat->Int),(V.dG 6).den (cT F lo)=lo 6)/\
 (∀(F:oa) (lo:Nat->Int),(V.dG 7).den (cT F lo)=lo 7)/\
 (∀(F:oa) (lo:Nat->Int),(V.dG 8).den (cT F lo)=lo 8)/\
 (∀(F:oa) (lo:Nat->Int),(V.dG 9).den (cT F lo)=lo 9)/\
 (∀(F:oa) (lo:Nat->Int),(V.dG 10).den (cT F lo)=lo 10)/\
 (∀(F:oa) (lo:Nat->Int),(V.dG 11).den (cT F lo)=lo 11)/\
 (∀(F:oa) (lo:Nat->Int),(V.dG 12).den (cT F lo)=lo 12)/\
 (∀(F:oa) (lo:Nat->Int),(V.dG 13).den (cT F lo)=lo 13)/\
 (∀(F:oa) (lo:Nat->Int),(V.dG 14).den (cT F lo)=lo 14)/\
 (∀(F:oa) (lo:Nat->Int),(V.dG 15).den (cT F lo)=lo 15)/\
 (∀(F:oa) (lo:Nat->Int),(V.dG 16).den (cT F lo)=lo 16)/\
 (∀(F:oa) (lo:Nat->Int),(V.dG 17).den (cT F lo)=lo 17)/\
 (∀(F:oa) (lo:Nat->Int),(V.dG 18).den (cT F lo)=lo 18)/\
 (∀(F:oa) (lo:Nat->Int),(V.dG 19).den (cT F lo)=lo 19)/\
 (∀(F:oa) (lo:Nat->Int),(V.dG 20).den (cT F lo)=lo 20)/\
 (∀(F:oa) (lo:Nat->Int),(V.dG 21).den (cT F lo)=lo 21)/\
 (∀(F:oa) (lo:Nat->Int),(V.dG 22).den (cT F lo)=lo 22)/\
 (∀(F:oa) (lo:Nat->Int),(V.dG 23).den (cT F lo)=lo 23)/\
 (∀(F:oa) (lo:Nat->Int),(V.dG 24).den (cT F lo)=lo 24)/\
 (∀(F:oa) (lo:Nat->Int),(V.dG 25).den (cT F lo)=lo 25)/\
 (∀{ρ:Nat->Int} (n:Int),(V.lit n).den ρ=n)/\
 (∀{ρ:Nat->Int} (d:D),(V.ei d).den ρ=enc d)/\
 (∀{ρ:Nat->Int} (a:V),(ln a).den ρ=((dec (a.den ρ)).l.length:Int))/\
 (∀{ρ:Nat->Int} (a:V),(nm a).den ρ=(dec (a.den ρ)).n)/\
 (∀{ρ:Nat->Int} (j:Nat) (a:V),(ce j a).den ρ=enc ((dec (a.den ρ)).hd j))/\
 (∀{ρ:Nat->Int} (a b:V),(el a b).den ρ=enc ((dec (a.den ρ)).at (b.den ρ)))/\
 (∀{ρ:Nat->Int} (a b:V),(cn a b).den ρ=enc (.p (dec (a.den ρ)) (dec (b.den ρ))))/\
 (∀{ρ:Nat->Int} (a:V),(mk a).den ρ=enc (.i (a.den ρ)))/\
 (∀{ρ:Nat->Int} (a:V),(wr a).den ρ=IntKind.i64.wrap (a.den ρ))/\
 (∀{ρ:Nat->Int} (a b:V),(V.add a b).den ρ=a.den ρ+b.den ρ)/\
 (∀{ρ:Nat->Int} (a b:V),(V.sub a b).den ρ=a.den ρ-b.den ρ)/\
 (∀{ρ:Nat->Int} (o:e9) (a b:V),(V.op o a b).den ρ=o.den (a.den ρ) (b.den ρ))/\
 (∀{F:oa} {lo:Nat->Int} (j:Nat) (l:List V),(a0 j l).den (cT F lo)=if (F j (l.map (V.den (cT F lo)))).isSome=true then 1 else 0)/\
 (∀{F:oa} {lo:Nat->Int} (j:Nat) (l:List V) (i:Nat),(rr j l i).den (cT F lo)=low ((F j (l.map (V.den (cT F lo)))).getD []) i)/\
 (∀{x:Int} {xs:List Int},low (x::xs) 0=x)/\
 (∀{x:Int} {xs:List Int} {i:Nat},low (x::xs) (i+1)=low xs i)/\
 (∀{f:V->Int},List.map f []= [])/\
 (∀{f:V->Int} {a:V} {l:List V},List.map f (a::l)=f a::List.map f l)/\
 (∀d:D,dec (enc d)=d)/\
 (∀n:Int,(D.i n).n=n)/\
 (∀{α:Type} (a:α),(some a).isSome=true)/\
 (∀{α:Type} (a b:α),(some a).getD b=a)/\
 (∀{α:Type} {_:Decidable True} (a b:α),ite True a b=a)/\
 (∀{α:Type} {_:Decidable False} (a b:α),ite False a b=b)/\
 (∀{ρ:Nat->Int},zY ρ []=True)/\
 (∀{ρ:Nat->Int} (c:SB) (l:List SB),zY ρ (c::l)=(c.den ρ=true/\zY ρ l))/\
 (∀{ρ:Nat->Int},zW ρ []=True)/\
 (∀{ρ:Nat->Int} (c:SB) (l:List SB),zW ρ (c::l)=(¬c.den ρ=true/\zW ρ l))/\
 (∀x y:Int,e9.den .len x y=((dec x).l.length:Int))/\
 (∀x y:Int,e9.den .at x y=enc ((dec x).at y))/\
 (∀(x y:Int) (j:Nat),e9.den (.cell j) x y=enc ((dec x).hd j))/\
 (∀x y:Int,e9.den .num x y=(dec x).n)/\
 (∀x y:Int,e9.den .mk x y=enc (.i x))/\
 (∀x y:Int,e9.den .cons x y=enc (.p (dec x) (dec y)))/\
 (∀x y:Int,e9.den .snoc x y=enc (dL ((dec x).l++ [dec y])))/\
 (∀x y:Int,e9.den .cat x y=enc (dL ((dec x).l++(dec y).l)))/\
 (∀x y:Int,e9.den .take x y=enc (eY (dec x) ((dec x).l.take y.toNat)))/\
 (∀x y:Int,e9.den .drop x y=enc (eY (dec x) ((dec x).l.drop y.toNat)))/\
 (∀(x:Int) (q v:D),e9.den .set x (enc (.p q v))=enc (dL (fC (dec x).l q.n v)))/\
 (∀x y:Int,e9.den .bit x y=enc (.i (if (dec x).n=0 then 0 else 1)))/\
 (∀x y:Int,e9.den .norm x y=enc (dec x))/\
 (∀x y:Int,e9.den .Ld x y=if (gf (dec x).l (dec y)).isSome then 1 else 0)/\
 (∀x y:Int,e9.den .DV x y=enc ((gf (dec x).l (dec y)).getD (.i 0)))/\
 (∀(x:Int) (k v:D),e9.den .uS x (enc (.p k v))=enc (dL (j8 (dec x).l k v)))/\
 (∀x y:Int,e9.den .rep x y=enc (dL (List.replicate x.toNat (dec y))))/\
 (∀(x:Int) (q v:D),e9.den .fill x (enc (.p q v))=enc (dL ((dec x).l.take q.n.toNat++List.replicate ((dec x).l.length-q.n.toNat) v)))/\
 (∀x y:Int,e9.den .sub x y=enc (dL (((dec x).l.take ((dec y).hd 1).n.toNat).drop ((dec y).hd 0).n.toNat)))/\
 (∀x y:Int,e9.den .idx x y=Fe (dec x).l y)/\
 (∀x y:Int,e9.den .cnt x y=j! (dec x).l y)/\
 (∀x y:Int,e9.den .con x y=if UJ (dec x).l (dec y).l then 1 else 0)/\
 (∀x y:Int,e9.den .slt x y=if Mr (dec x).l (dec y).l then 1 else 0)/\
 (∀x y:Int,e9.den .Lg x y=enc (dL (FP (dec x).l (dec y))))/\
 (∀p:Prop,(p/\True)=p)/\(∀p:Prop,(True/\p)=p)/\(¬False)=True:=
 ⟨eI,iT,mu,sD,lA,gF,fun _ _=>bU ae,fun _ _=>bU ae,fun _ _=>bU ae,fun _ _=>bU ae,fun _ _=>bU ae,fun _ _=>bU ae,fun _ _=>bU ae,fun _ _=>bU ae,fun _ _=>bU ae,fun _ _=>bU ae,fun _ _=>bU ae,fun _ _=>bU ae,fun _ _=>bU ae,fun _ _=>bU ae,fun _ _=>bU ae,fun _ _=>bU ae,fun _ _=>bU ae,fun _ _=>bU ae,fun _ _=>bU ae,fun _ _=>bU ae,fun _ _=>bU ae,fun _ _=>bU ae,fun _ _=>bU ae,fun _ _=>bU ae,fun _ _=>bU ae,fun _ _=>bU ae,cW,iS,gN,Bd,g_,Be,E7,E6,vu,den_add,aa4,E5,fX,fH,bM _,bN _ _,rfl,rfl,bB,T0,fun _=>rfl,fun _ _=>rfl,fun _ _=>ag trivial,fun _ _=>af id,rfl,fun _ _=>rfl,rfl,fun _ _=>rfl,fun _ _=>rfl,fun _ _=>rfl,fun _ _ _=>rfl,fun _ _=>rfl,fun _ _=>rfl,fun _ _=>rfl,fun _ _=>rfl,fun _ _=>rfl,fun _ _=>rfl,fun _ _=>rfl,fun _ _ _=>by show (match dec (enc _) with | .p q v=>_|_=>_)=_; rw [bB],fun _ _=>rfl,fun _ _=>rfl,fun _ _=>rfl,fun _ _=>rfl,fun _ _ _=>by show (match dec (enc _) with | .p q v=>_|_=>_)=_; rw [bB],fun _ _=>rfl,fun _ _ _=>by show (match dec (enc _) with | .p q v=>_|_=>_)=_; rw [bB],fun _ _=>rfl,fun _ _=>rfl,fun _ _=>rfl,fun _ _=>rfl,fun _ _=>rfl,fun _ _=>rfl,and_true,true_and,not_false_eq_true⟩
theorem zg:(∀(l:List D) (j:Nat),(dL l).hd j=(l[j]?).getD (.i 0))/\(∀(a:D) (l:List D),(a::l)[0]?=some a)/\(∀(a:D) (l:List D) (i:Nat),(a::l)[i+1]?=l[i]?):=⟨fm,fun _ _=>rfl,fun _ _ _=>rfl⟩
end Go.As
end
section
namespace Go.As.Try
open Go hiding Stat Spec shape
open Go.As
set_option maxRecDepth 100000
set_option linter.unusedSimpArgs false
set_option linter.unusedVariables false
theorem T1 {l:List D} {u:Int}:u∈(eO l).map D.n↔u∈l.map D.n:=by
 have e:(eO l).map D.n=(l.map D.n).mergeSort fun x y=>decide (x<=y):=by unfold eO;rw [am7];exact ano _
 rw [e];exact List.mem_mergeSort
theorem Lq (d:Array Int): ∀j:Nat,∃i,i<=j/\Lib.keeps d i=true/\d[i]! =d[j]!
 |0=> ⟨0,au _,by simp [Lib.keeps],rfl⟩
 |j+1=>by
  by_cases hk:Lib.keeps d (j+1)=true
  ·exact⟨j+1,au _,hk,rfl⟩
  ·obtain⟨i,a,b,c⟩:=Lq d j;refine⟨i,J,b,?_⟩
   have:d[j+1]! =d[j]!:=by simp only [Lib.keeps,decide_eq_true_eq,not_or,Decidable.not_not] at hk;exact hk.2
   rw [c,this]
theorem Le {l:List Int} {u:Int}:u∈Lib.compact l↔u∈l:=by
 unfold Lib.compact Lib.compactUpTo;simp only [aH,am1,am2];constructor
 ·rintro⟨j,⟨hj,_⟩,rfl⟩;have:l.toArray[j]! =l[j]:=by simp [hj]
  rw [this];exact az hj
 ·intro hu;obtain⟨j,hj,rfl⟩:=ank hu;obtain⟨i,a,b,c⟩:=Lq l.toArray j;exact⟨i,⟨J,b⟩,by rw [c]; simp [hj]⟩
theorem T3 {l:List D} {u:Int}:u∈(gk l).map D.n↔u∈l.map D.n:=by
 have e:(gk l).map D.n=Lib.compact (l.map D.n):=by unfold gk;rw [am7];exact ano _
 rw [e];exact Le
theorem pN (x y:Int):e9.den .sort x y=enc (dL (eO (dec x).l)):=rfl
theorem pO (x y:Int):e9.den .comp x y=enc (dL (gk (dec x).l++List.replicate ((dec x).l.length-(gk (dec x).l).length) (.i 0))):=rfl
theorem pP (x y:Int):e9.den .My x y=((gk (dec x).l).length:Int):=rfl
theorem zT (l:List D):(eO l).length=l.length:=by simp [eO,aoU]
theorem j_ (l:List D):(gk l).length<=l.length:=by unfold gk Lib.compact Lib.compactUpTo;rw [aL,aL];exact bn (aoK ..) ad
end Go.As.Try
end
section
namespace Go.As.Try
open Go hiding Stat Spec shape
open Go.As
set_option maxRecDepth 100000
def Ends (p:List Int->Prop) (R:RS):Prop:= ∃ys,fin L R=some ys/\p ys
def dC (j:Nat) (xs:List Int) (p:List Int->Prop):Prop:= ∃ys,L j xs=some ys/\p ys
theorem dC.of {j:Nat} {xs:List Int} {p:List Int->Prop} (h:Ends p (ew (cT L (low xs)) (S.tree j))):dC j xs p:=by obtain⟨ys,U,Z⟩:=h;exact⟨ys,by rw [bL]; exact U,Z⟩
theorem Ends.ite {p:List Int->Prop} {c:Prop} [Decidable c] {a b:RS} (U:c->Ends p a) (Z: ¬c->Ends p b):Ends p (if c then a else b):=by
 grind
theorem Ends.out {p:List Int->Prop} {ys:List Int} (h:p ys):Ends p (.out ys):=⟨ys,rfl,h⟩
theorem Ends.jump {p:List Int->Prop} {j:Nat} {xs:List Int} (h:dC j xs p):Ends p (.jump j xs):=h
def xI (ys:List Int):Prop:= ∃c:Int,ys= [c]/\(c=0\/c=1)
def is3 (ys:List Int):Prop:= ∃a b c:Int,ys= [a,b,c]/\(c=0\/c=1)
theorem sS:xI [0]:=⟨0,rfl,.inl rfl⟩
theorem sR:xI [1]:=⟨1,rfl,.inr rfl⟩
theorem Lu {a b:Int}:is3 [a,b,0]:=⟨a,b,0,rfl,.inl rfl⟩
theorem acr {a b:Int}:is3 [a,b,1]:=⟨a,b,1,rfl,.inr rfl⟩
def jZ (x:D):D:=dL [.i (-1),.i (if (x.hd 0).n=3\/(x.hd 0).n=9 then (x.hd 2).n else 0),.i 0,.i 0,.i 1,.i 1]
theorem Fs (d0:D) (hlen:d0.l.length<=64): ∀(k i:Nat) (acc:List D),i+k=d0.l.length->acc.length=i->
 L 302 [enc (dL acc),enc d0,(d0.l.length:Int),(i:Int)]=some [enc (dL (acc++(d0.l.drop i).map jZ))]
 |0,i,acc,U,Z=>by
  rw [bL,agc];simp only [aeK,eI,iT,lA,bU,bM,bN,Nat.reduceLT,fin,List.map]
  grind
 |k+1,i,acc,U,Z=>by
  have hi:i<d0.l.length:=J
  have hd:d0.l.drop i=d0.l[i]::d0.l.drop (i+1):=bh hi;have ih:=fun x=>Fs d0 hlen k (i+1) (acc++ [x]) J (by simp [Z]);rw [bL,agc,hd];simp only [aeK,eI,iT,mu,sD,lA,gF,bU,gN,cW,Bd,g_,Be,E5,E7,E6,iS,vu,den_add,bM,bN,Nat.reduceLT,List.map,bB,bJ,bX hi];have w:=bS (n:=i) J;have c1:(i:Int)<(d0.l.length:Int):=J
  have c2: ¬((i:Int)<0):=J
  have c3:(acc.length:Int)<1759218604440:=J
  simp only [c1,c2,c3,w,if_true,if_false,fin,e9.den,bB,bJ];by_cases h3:(d0.l[i].hd 0).n=3
  ·simp only [h3,if_true,fin];have:=ih (jZ d0.l[i]);simp only [jZ,h3,true_or,if_true,dL] at this ⊢
   grind
  ·by_cases h9:(d0.l[i].hd 0).n=9
   ·simp only [af h3,ag h9,fin];have:=ih (jZ d0.l[i]);simp only [jZ,ag (Or.inr h9:(d0.l[i].hd 0).n=3\/(d0.l[i].hd 0).n=9),dL] at this ⊢
    grind
   ·simp only [af h3,af h9,fin];have:=ih (jZ d0.l[i]);simp only [jZ,h3,h9,or_self,if_false,dL] at this ⊢
    grind
def Bs (d:D):Prop:=d=dL d.l/\∀(i:Nat) (h:i<d.l.length),0<=(d.l[i]).n/\(d.l[i]).n<256
theorem agz (s:ByteArray):Bs (tz s):=by unfold tz pQ;refine⟨by rw [bJ],fun i h=>?_⟩;simp only [bJ,aL,List.getElem_map,D.n] at h ⊢;have:=(s.data.toList[i]).toNat_lt;omega
theorem BF (d:D) (hb:Bs d) (hlen:d.l.length<=1000000): ∀(k i:Nat) (n:Int),i+k=d.l.length->∃a b,L 1102 [n,enc d,(d.l.length:Int),(i:Int)]=some [a,b]
 |0,i,n,U=>by rw [bL,e_];simp only [WT,eI,iT,lA,bU,bM,bN,Nat.reduceLT,List.map,cW];rw [af J];exact⟨_,_,rfl⟩
 |k+1,i,n,U=>by
  have hi:i<d.l.length:=J
  have ih:=fun x=>BF d hb hlen k (i+1) x J;rw [bL,e_];have w:=bS (n:=i) J;have c1:(i:Int)<(d.l.length:Int):=J
  have c2: ¬((i:Int)<0):=J
  simp only [WT,eI,iT,mu,sD,lA,bU,bM,bN,Nat.reduceLT,List.map,cW,gN,bB,c1,c2,if_true,if_false,vu,den_add,w];split
  ·exact⟨_,_,rfl⟩
  ·exact ih _
theorem N5 (d:D) (hb:Bs d) (hlen:d.l.length<=1000000): ∃a b,L 1100 [enc d]=some [a,b]:=by
 rw [bL,adz];simp only [aca,eI,mu,gF,bU,bM,bN,Nat.reduceLT,List.map,cW,gN,bB];split
 ·show ∃a b,L 1101 []=some [a,b];rw [bL,ady];exact⟨_,_,rfl⟩
 ·exact BF d hb hlen d.l.length 0 _ J
theorem HL (z:Int): ∀(l:List D) (i:Nat),qL z l (i:Int)= -1\/((i:Int)<=qL z l i/\qL z l i<(i:Int)+l.length)
 |[],i=> .inl rfl
 |d::l,i=>by
  have ih:=HL z l (i+1);have hc:((i+1:Nat):Int)=(i:Int)+1:=J
  rw [hc] at ih;have Y:((d::l).length:Int)=(l.length:Int)+1:=ad
  cases d with
  |i n=>
   simp only [qL]
   grind
  |p a b=>
   simp only [qL]
   grind
theorem i? {z:Int} {d:D} {l:List D} (h:d≠.i z) (h0: ¬Fe (d::l) z<0):1<=Fe (d::l) z/\Fe (d::l) z<(l.length:Int)+1:=by
 have U:=HL z l 1
 have key:Fe (d::l) z=qL z l ((1:Nat):Int):=by
  unfold Fe
  cases d with
  |i n=>
   simp only [qL]
   grind
  |p a b=>rfl
 grind
theorem akD:(b0.at 10).n=1:=by show (b0.at ((10:Nat):Int)).n=1;kernel_rfl
theorem vA (d:D) (hb:Bs d) (hlen:d.l.length<=1000000) (x1:Int): ∀(k i:Nat),d.l.length-i<=k->i<=d.l.length->∃p:Nat,p<=d.l.length/\L 12801 [enc d,x1,(i:Int)]=some [0,enc d,x1,(p:Int)]
 |k,i,U,Z=>by
  rw [bL,Z2];have c2: ¬((i:Int)<0):=J
  by_cases hi:i<d.l.length
  ·have c1:(i:Int)<(d.l.length:Int):=J
   have w:=bS (n:=i) J;obtain⟨b1,b2⟩:=hb.2 i hi;have b1: ¬(d.l[i]).n<0:=J
   obtain⟨k,rfl⟩ : ∃k',k=k'+1:=⟨k-1,J⟩;have FT:(d.l.take d.l.length).drop i=d.l[i]::d.l.drop (i+1):=by rw [anE,bh hi]
   simp only [Nw,eI,iT,mu,sD,lA,gF,bU,bM,bN,Nat.reduceLT,List.map,cW,iS,gN,bB,c1,c2,if_true,if_false,vu,den_add,w,Bd,Be,bX hi,b1,b2];by_cases q1:(b0.at (d.l[i]).n).n=1
   ·simp only [q1,if_true];exact vA d hb hlen x1 k (i+1) J J
   ·by_cases q2:(b0.at (d.l[i]).n).n=2
    ·simp only [af q1,ag q2]
     have fJ:d.l[i]≠.i 10:=by intro h;rw [h] at q1;exact q1 akD
     simp only [aG,if_false,E5,e9.den,E7,E6,iS,gN,bU,cW,bM,bN,Nat.reduceLT,bB,D.hd,l_p,mI,T0,aF,aK,aC,bd,bJ,FT];split
     ·exact⟨d.l.length,au _,by simp [fin]⟩
     ·rename_i h0;obtain⟨g1,g2⟩:=i? fJ h0;rw [amU] at g2;obtain⟨m,hm⟩ : ∃m:Nat,Fe (d.l[i]::d.l.drop (i+1)) 10=(m:Int):=⟨(Fe (d.l[i]::d.l.drop (i+1)) 10).toNat,J⟩;have w2:IntKind.i64.wrap ((i:Int)+(m:Int))=((i+m:Nat):Int):=by rw [mj J J]; omega
      simp only [hm,w2,fin];exact vA d hb hlen x1 k (i+m) J J
    ·simp only [af q1,af q2];exact⟨i,J,rfl⟩
  ·have c1: ¬(i:Int)<(d.l.length:Int):=J
   simp only [Nw,eI,iT,lA,bU,bM,bN,Nat.reduceLT,List.map,cW,gN,bB,c1,if_false];exact⟨i,J,rfl⟩
theorem Pr (d:D) (hb:Bs d) (hlen:d.l.length<=1000000) (i:Nat) (hi:i<=d.l.length): ∃p:Nat,p<=d.l.length/\L 12800 [enc d,(i:Int)]=some [0,enc d,(i:Int),(p:Int)]:=by rw [bL,Z3];simp only [WE,mu,bU,bM,bN,Nat.reduceLT,List.map];exact vA d hb hlen _ _ i (au _) hi
theorem HH (d:D) (hb:Bs d) (hlen:d.l.length<=1000000) (x1 x2:Int): ∀(k i:Nat),d.l.length-i<=k->i<=d.l.length->∃p:Nat,i<=p/\p<=d.l.length/\L 12851 [enc d,x1,x2,(i:Int)]=some [0,enc d,x1,(p:Int)]
 |k,i,U,Z=>by
  rw [bL,Z0];have c2: ¬((i:Int)<0):=J
  by_cases hi:i<d.l.length
  ·have c1:(i:Int)<(d.l.length:Int):=J
   have w:=bS (n:=i) J;obtain⟨b1,b2⟩:=hb.2 i hi;have b1: ¬(d.l[i]).n<0:=J
   obtain⟨k,rfl⟩ : ∃k',k=k'+1:=⟨k-1,J⟩
   have ih: ∃p:Nat,i<=p/\p<=d.l.length/\L 12851 [enc d,x1,x2,((i+1:Nat):Int)]=some [0,enc d,x1,(p:Int)]:=by
    obtain⟨p,q1,q2,q3⟩:=HH d hb hlen x1 x2 k (i+1) J J
    grind
   simp only [Nv,eI,iT,mu,sD,lA,gF,bU,bM,bN,Nat.reduceLT,List.map,cW,iS,gN,bB,c1,c2,if_true,if_false,vu,den_add,w,Bd,Be,bX hi,b1,b2];split
   ·exact ih
   ·split
    ·split
     ·exact ih
     ·exact⟨i,J,J,rfl⟩
    ·exact⟨i,J,J,rfl⟩
  ·have c1: ¬(i:Int)<(d.l.length:Int):=J
   simp only [Nv,eI,iT,lA,bU,bM,bN,Nat.reduceLT,List.map,cW,gN,bB,c1,if_false];exact⟨i,J,J,rfl⟩
theorem QW {l:List D} {a b:D} (h:enc (dL l)=enc (.p a (.p b (.i 0)))):l.length=2:=by have:=congrArg (fun d=>d.l.length) (hU h);simpa [D.l] using this
theorem Y5 (d:D) (hb:Bs d) (hlen:d.l.length<=1000000) (i:Nat) (hi:i<d.l.length): ∃p:Nat,i<p/\p<=d.l.length/\L 12850 [enc d,(i:Int)]=some [0,enc d,(i:Int),(p:Int)]:=by
 have c2: ¬((i:Int)<0):=J
 have c1:(i:Int)<(d.l.length:Int):=J
 have w:=bS (n:=i) J;have w1:=bS (n:=i+1) J;have w2:IntKind.i64.wrap ((i:Int)+2)=((i+2:Nat):Int):=by rw [mj J J]; omega
 obtain⟨b1,b2⟩:=hb.2 i hi;have b1: ¬(d.l[i]).n<0:=J
 have c3: ¬(((i+2:Nat):Int)<(i:Int)):=J
 rw [bL,Z1];simp only [WD,eI,iT,mu,sD,lA,gF,bU,bM,bN,Nat.reduceLT,List.map,cW,gN,bB,c1,c2,c3,if_true,if_false,vu,den_add,w,w1,w2,Bd,Be,bX hi,b1,b2,aG,E5,e9.den,E7,E6,iS,D.hd,l_p,mI,T0,aF,aK,aC,bd];split
 ·split
  ·rename_i h5;split
   ·rename_i h6;have:=QW h6;simp only [amU,a8] at this;omega
   ·split
    ·rename_i h6;have:=QW h6;simp only [amU,a8] at this;omega
    ·exact⟨i+1,J,J,rfl⟩
  ·rename_i h5;split
   ·exact⟨i+1+1,J,J,rfl⟩
   ·split
    ·exact⟨i+1+1,J,J,rfl⟩
    ·exact⟨i+1,J,J,rfl⟩
 ·obtain⟨p,q1,q2,q3⟩:=HH d hb hlen (i:Int) ((b0.at (d.l[i]).n).n) _ (i+1) (au _) J;exact⟨p,J,q2,q3⟩
theorem abb {d:D} (hb:Bs d) (a b:Nat):Bs (dL ((d.l.take b).drop a)):=by
 refine⟨by rw [bJ],fun i h=>?_⟩;simp only [bJ] at h ⊢
 have Y:i<d.l.length-a:=by
  grind
 have:((d.l.take b).drop a)[i]=d.l[a+i]:=ad
 rw [this];exact hb.2 _ _
theorem XO (d:D) (hb:Bs d): ∃k s n ln a e er el',L 1050 [enc d,0]=some [k,s,n,ln,a,e,er,el']:=by
 rw [bL,adA];by_cases hg:(16384:Int)<(d.l.length:Int)
 ·simp only [P7,eI,iT,lA,bU,bM,bN,Nat.reduceLT,List.map,cW,gN,bB,hg,if_true];exact⟨_,_,_,_,_,_,_,_,rfl⟩
 ·obtain⟨p,hp,hB⟩:=Pr d hb J 0 J;have hB':L 12800 [enc d,0]=some [0,enc d,0,(p:Int)]:=hB;have c0: ¬((0:Int)<0):=J
  have c1: ¬((d.l.length:Int)<0):=J
  have c2: ¬((p:Int)<0):=J
  have c3: ¬((d.l.length:Int)<(p:Int)):=J
  by_cases he:(p:Int)=(d.l.length:Int)
  ·simp only [P7,eI,iT,sD,lA,gF,bU,bM,bN,Nat.reduceLT,List.map,cW,gN,bB,hg,if_false,c0,c1,fX,fH,hB',bq,if_true,aC,c2,c3,he,aG,fin]
   grind
  ·obtain⟨e,U,Z,hE⟩:=Y5 d hb J p J;have c4: ¬((e:Int)<(p:Int)):=J
   have c5: ¬((d.l.length:Int)<(e:Int)):=J
   have acw:=abb hb p e;have hpl:((d.l.take e).drop p).length=e-p:=by simp only [amU,a8]; omega
   have Yq:0<((d.l.take e).drop p).length:=J
   obtain⟨na,nb,hN⟩:=N5 _ acw (by rw [bJ]; omega);obtain⟨b1,b2⟩:=acw.2 0 (by rw [bJ]; exact Yq);generalize hq:(d.l.take e).drop p=q at *;simp only [bJ] at b1 b2;have b1: ¬(q[0]).n<0:=J
   have mQ:(dL q).at 0=q[0]:=by have:=bX (d:=dL q) (i:=0) (by rw [bJ]; exact Yq);simpa using this
   have c6:(0:Int)<(q.length:Int):=J
   have c7:(q.length:Int)<1000000000:=J
   have c8:((([D.i 32]++q:List D).length:Nat):Int)<1000000000:=by simp only [aT,aM,bg]; omega
   simp only [P7,eI,iT,sD,lA,gF,bU,bM,bN,Nat.reduceLT,List.map,cW,gN,bB,hg,if_false,c0,c1,fX,fH,hB',hE,bq,if_true,aC,c2,c3,c4,c5,af he,E5,e9.den,E7,E6,iS,D.hd,l_p,mI,T0,aF,aK,bd,hq,bJ,c6,c7,c8,Bd,Be,mQ,b1,b2,hN]
   repeat' first |exact⟨_,_,_,_,_,_,_,_,rfl⟩|split
theorem j7 (d:D) (hb:Bs d): ∃b,(b=0\/b=1)/\L 1000 [enc d]=some [b]:=by
 obtain⟨k,s,n,ln',a,e,er,el',h⟩:=XO d hb;rw [bL,adB];simp only [acb,eI,iT,sD,gF,bU,bM,bN,Nat.reduceLT,List.map,cW,fX,fH,h,bq,if_true,aC];split
 ·split
  ·split
   ·exact⟨1,.inr rfl,rfl⟩
   ·exact⟨0,.inl rfl,rfl⟩
  ·exact⟨0,.inl rfl,rfl⟩
 ·exact⟨0,.inl rfl,rfl⟩
theorem ahy {d:D} (h:Wd .str d):Bs d:=by obtain⟨s,rfl⟩:=h.s;exact agz s
theorem wi {kids:D} (h:Wd (.sl 6) kids) {i:Nat} (hi:i<kids.l.length): ∃k s n ks,kids.l[i]=dL [.i k,s,.i n,ks]/\gq .u8 k/\Wd .str s/\gq .i64 n/\Wd (.sl 6) ks:=by
 obtain⟨r,U,Y,hc⟩:=h.elN (cs:=[.int .u8,.str,.int .i64,.sl 6]) rfl _ (az hi)
 match r,Y with
 |[a,b,c,d],_=> obtain⟨k,rfl,hk⟩:=(hc 0 _ _ rfl rfl).i;obtain⟨n,rfl,hn⟩:=(hc 2 _ _ rfl rfl).i;exact⟨k,b,n,d,U,hk,hc 1 _ _ rfl rfl,hn,hc 3 _ _ rfl rfl⟩
theorem S9 (d:D) (hb:Bs d): ∃b,(b=0\/b=1)/\L 13200 [enc d,0]=some [b,enc d,0]:=by
 obtain⟨b,RM,h⟩:=j7 d hb;rw [bL,ZS];simp only [Wu,zz,h];rcases RM with rfl|rfl
 ·exact⟨_,.inl rfl,rfl⟩
 ·exact⟨_,.inr rfl,rfl⟩
theorem Gx: ∀(m deep:Nat),21-deep<=m->∀(k n left loc:Int) (s kids:D),Wd .str s->Wd (.sl 6) kids->
 dC 5050 [k,enc s,n,enc kids,(deep:Int),left,loc] is3
 |m,deep,hm,k,n,left,loc,s,kids,hs,hk=>by
  refine dC.of ?_;rw [adb];simp only [abU,zz];refine .ite (fun _=> .out Lu) fun _=> .ite (fun _=> .out Lu) fun hd=> .jump ?_;obtain⟨m,rfl⟩ : ∃m',m=m'+1:=⟨m-1,J⟩;have ih:=Gx m (deep+1) J;have hlen:=hk.len;have w0:=bS (n:=deep) J
  have loop: ∀(j i:Nat) (l' c':Int),i+j=kids.l.length->dC 5051 [(deep:Int),enc kids,(kids.l.length:Int),(i:Int),l',c',k,enc s,n] is3:=by
   intro j
   induction j with
   |zero=>
    intro i l' c' hi;have c1: ¬(i:Int)<(kids.l.length:Int):=J
    obtain⟨b,hb,hR⟩:=S9 s (ahy hs);refine dC.of ?_;rw [Zt];simp only [Wi,zz,c1,hR];rcases hb with rfl|rfl
    ·simp only [Int.reduceEq,if_true,if_false]
     repeat' first |exact .out Lu|exact .out acr|refine .ite (fun _=>?_) (fun _=>?_)
    ·simp only [Int.reduceEq,if_true,if_false]
     repeat' first |exact .out Lu|exact .out acr|refine .ite (fun _=>?_) (fun _=>?_)
   |succ j tP=>
    intro i l' c' hi;have dX:i<kids.l.length:=J
    have c1:(i:Int)<(kids.l.length:Int):=J
    have c2: ¬((i:Int)<0):=J
    have w:=bS (n:=i) J;obtain⟨k',s',n',ks',he,_,U,_,Z⟩:=wi hk dX;obtain⟨ys,hR,a,b,c,rfl,hc⟩:=ih k' n' l' c' s' ks' U Z;refine dC.of ?_;rw [Zt];simp only [Wi,zz,c1,c2,bX dX,he,zg,w0,w,hR];exact .ite (fun _=> .out Lu) fun _=> .jump (tP (i+1) _ _ J)
  exact loop kids.l.length 0 _ _ J
theorem Tl (k n loc:Int) (s kids:D) (hs:Wd .str s) (hk:Wd (.sl 6) kids):dC 800 [k,enc s,n,enc kids,loc] xI:=by obtain⟨ys,hR,a,b,c,rfl,hc⟩:=Gx 20 1 J k n 1000 loc s kids hs hk;have hR':L 5050 [k,enc s,n,enc kids,1,1000,loc]=some [a,b,c]:=hR;refine dC.of ?_;rw [aj6];simp only [ahM,zz,hR'];exact .ite (fun _=> .out sS) fun _=> .out sR
def acp (a b c:Int) (ys:List Int):Prop:= ∃i:Int,ys= [a,b,c,i]
def afk (a b c:Int) (ys:List Int):Prop:= ∃i:Int,ys= [a,b,c,i]/\(i=0\/i=1)
theorem zE (kids loc:D) (wZ code:Int) (hk:Wd (.sl 6) kids): ∀(j i:Nat),i+j=kids.l.length->dC 5401 [enc kids,(kids.l.length:Int),(i:Int),wZ,enc loc,code] (acp wZ (enc loc) code)
 |0,i,hi=>by
  have c1: ¬(i:Int)<(kids.l.length:Int):=J
  refine dC.of ?_;rw [Zp];simp only [We,zz,c1];exact .out ⟨_,rfl⟩
 |j+1,i,hi=>by
  have hlen:=hk.len;have dX:i<kids.l.length:=J
  have c1:(i:Int)<(kids.l.length:Int):=J
  have c2: ¬((i:Int)<0):=J
  have w:=bS (n:=i) J;obtain⟨k',s',n',ks',he,_,U,_,Z⟩:=wi hk dX;obtain⟨ys,hR,b,rfl,hb⟩:=Tl k' n' (loc.l.length:Int) s' ks' U Z;refine dC.of ?_;rw [Zp];simp only [We,zz,c1,c2,bX dX,he,zg,w,hR];exact .ite (fun _=> .out ⟨_,rfl⟩) fun _=> .jump (zE kids loc wZ code hk j (i+1) J)
theorem Uu (kids loc:D) (wZ code:Int) (hk:Wd (.sl 6) kids):dC 5000 [enc kids,wZ,enc loc,code] (afk wZ (enc loc) code):=by
 have h0:dC 5400 [enc kids,wZ,enc loc,code] (acp wZ (enc loc) code):=by refine dC.of ?_;rw [ac1];simp only [abN,zz];exact .jump (zE kids loc wZ code hk kids.l.length 0 J)
 obtain⟨ys,hR,i,rfl⟩:=h0;refine dC.of ?_;rw [ade];simp only [abV,zz,hR];exact .ite (fun _=> .out ⟨_,rfl,.inl rfl⟩) fun _=> .out ⟨_,rfl,.inr rfl⟩
theorem n8 (o:Int):dC 1250 [o] xI:=by
 refine dC.of ?_;rw [adv];simp only [ab7,zz]
 repeat' first |exact .out sS|exact .out sR|refine .ite (fun _=>?_) (fun _=>?_)
theorem nN (o:Int):dC 1300 [o] xI:=by
 refine dC.of ?_;rw [adu];simp only [ab6,zz]
 repeat' first |exact .out sS|exact .out sR|refine .ite (fun _=>?_) (fun _=>?_)
theorem Mt (o:Int):dC 1350 [o] xI:=by
 refine dC.of ?_;rw [adt];simp only [ab5,zz]
 repeat' first |exact .out sS|exact .out sR|refine .ite (fun _=>?_) (fun _=>?_)
def E1:D:=.p (.i 1) (.p (.i 0) (.p (.i 0) (.p (.i 1) (.i 0))))
theorem wO:Bs (.i 0):=⟨rfl,fun i h=>by simp [D.l] at h⟩
theorem wM {b:Int} (U:0<=b) (Z:b<256):Bs (.p (.i b) (.i 0)):=⟨rfl,fun i h=>by
 simp only [D.l,aM,bg] at h;obtain rfl:i=0:=J
 exact⟨U,Z⟩⟩
theorem fU (k n x5:Int) (s s':D) (hs:Bs s) (hs':Bs s'):dC 1400 [k,enc s,n,enc s',x5] xI:=by
 obtain⟨b,hb,hR⟩:=j7 s hs;obtain⟨b',Ci,hR'⟩:=j7 s' hs';obtain⟨ys,hC,c,rfl,hc⟩:=Mt k;refine dC.of ?_;rw [ads];simp only [ab4,zz,hR,hR',hC]
 repeat' first |exact .out sS|exact .out sR|refine .ite (fun _=>?_) (fun _=>?_)
theorem abf:L 1150 [1,enc (.i 0),0,enc (.i 1)]=some [1]:=by rw [bL,adx];simp only [ab9,zz,mI,bg,Int.reduceLT,Int.reduceEq];rfl
theorem Uv (a b:Int):L 5450 [enc (.i 1),a,b]=some [b]:=by rw [bL,ac0];simp only [abM,zz,mI,bg,fin];rw [bL,acZ];simp only [abL,zz];rfl
theorem wg:L 5250 [enc (dL [E1]),2,1]=some [2,enc (dL [E1])]:=by have U:=abf;have Z:=Uv 3 2;have w1:IntKind.i64.wrap (1+1)=2:=mj J J;have w2:IntKind.i64.wrap (2+1)=3:=mj J J;have w3:IntKind.i64.wrap (0+1)=1:=mj J J;have ha:(dL [E1]).at 0=E1:=rfl;have g0:E1.hd 0= .i 1:=rfl;have g1:E1.hd 1= .i 0:=rfl;have g2:E1.hd 2= .i 0:=rfl;have g3:E1.hd 3= .i 1:=rfl;rw [bL,ac4];simp only [abQ,zz,bJ,aM,bg,aA,fin];rw [bL,Zs];simp only [Wh,zz,bJ,aM,bg,aA,ha,g0,g1,g2,g3,w1,w2,w3,U,Z,Int.reduceLT,Int.reduceEq,fin,bk,aG];rw [bL,Zs];simp only [Wh,zz,aG];rfl
theorem Tb (k m:Int):L 5500 [enc (.i 1),k,m]=some [k,m,1]:=by rw [bL,acY];simp only [abK,zz,mI,bg,fin];rw [bL,acX];simp only [abJ,zz];rfl
theorem Ta (a k m:Int):L 5600 [enc (.i 1),a,k,m]=some [a,k,m,1]:=by rw [bL,acW];simp only [abI,zz,mI,bg,fin];rw [bL,acV];simp only [abH,zz];rfl
theorem VW (k m:Int):L 5150 [k,m]=some [k,m,1]:=by rw [bL,ac8];simp only [abS,zz,fin];rw [bL,ac7];rfl
theorem VV (k m:Int):L 5200 [k,m]=some [1,k,m,1]:=by rw [bL,ac6];simp only [abR,zz,fin];rw [bL,ac5];rfl
theorem CW (k m:Int):L 5100 [k,m]=some [m]:=by rw [bL,ada];simp only [abT,zz,fin];rw [bL,ac9];rfl
theorem lh (k m:Int):L 5300 [1,enc (dL [E1]),k,m]=some [enc (dL [E1]),k,m,1]:=by have Z:=Tb k m;have w3:IntKind.i64.wrap (0+1)=1:=mj J J;have ha:(dL [E1]).at 0=E1:=rfl;have g0:E1.hd 0= .i 1:=rfl;have g1:E1.hd 1= .i 0:=rfl;have g3:E1.hd 3= .i 1:=rfl;rw [bL,ac3];simp only [abP,zz,fin];rw [bL,Zr];simp only [Wg,zz,bJ,aM,bg,aA,ha,g0,g1,g3,w3,Z,Int.reduceLT,Int.reduceEq,fin,bk,aG];rw [bL,Zr];simp only [Wg,zz,aG];rfl
theorem Ie (k m:Int):L 5350 [1,enc (dL [E1]),k,m]=some [enc (dL [E1]),1,k,m,1]:=by have Z:=Ta 1 k m;have w3:IntKind.i64.wrap (0+1)=1:=mj J J;have ha:(dL [E1]).at 0=E1:=rfl;have g0:E1.hd 0= .i 1:=rfl;have g1:E1.hd 1= .i 0:=rfl;have g3:E1.hd 3= .i 1:=rfl;rw [bL,ac2];simp only [abO,zz,fin];rw [bL,Zq];simp only [Wf,zz,bJ,aM,bg,aA,ha,g0,g1,g3,w3,Z,Int.reduceLT,Int.reduceEq,fin,bk,aG];rw [bL,Zq];simp only [Wf,zz,aG];rfl
def isR (ys:List Int):Prop:= ∃b l,ys=b::l/\(b=0\/b=1)
def T9 (e:Int) (ys:List Int):Prop:= ∃b l,ys=b::l/\(b=0\/b=1/\e<=23)
theorem I0 {e:Int} {l:List Int}:T9 e (0::l):=⟨0,l,rfl,.inl rfl⟩
theorem IZ {e:Int} {l:List Int} (h:e<=23):T9 e (1::l):=⟨1,l,rfl,.inr ⟨rfl,h⟩⟩
theorem IC (a b c d e f g:Int):dC 12400 [a,b,c,d,e,f,g] (T9 e):=by
 obtain⟨ys,U,o,rfl,_⟩:=fU a b c _ _ (wM (b:=97) J J) wO;obtain⟨ys,Z,q,rfl,_⟩:=n8 e;obtain⟨ys,h3,r,rfl,_⟩:=nN e;obtain⟨n,_,h4⟩:=j7 _ wO;refine dC.of ?_;rw [a!];simp only [WJ,zz,U,Z,h3,h4,CW]
 repeat' first |exact .out I0|exact .out (IZ J)|refine .ite (fun _=>?_) (fun _=>?_)
theorem IB (a b c d e f g:Int):dC 12500 [a,b,c,d,e,f,g] (T9 e):=by
 obtain⟨ys,U,o,rfl,_⟩:=fU a b c _ _ (wM (b:=97) J J) wO;obtain⟨ys,Z,q,rfl,_⟩:=n8 e;obtain⟨ys,h3,r,rfl,_⟩:=nN e;obtain⟨n,_,h4⟩:=j7 _ wO;refine dC.of ?_;rw [Z9];simp only [WH,zz,U,Z,h3,h4,CW]
 repeat' first |exact .out I0|exact .out (IZ J)|refine .ite (fun _=>?_) (fun _=>?_)
theorem Xw (a b c d e f g h i:Int):dC 12450 [a,b,c,d,e,f,g,h,i] (T9 g):=by
 obtain⟨ys,h0,o,rfl,_⟩:=fU 1 a b _ _ (wM (b:=98) J J) wO;obtain⟨ys,U,o',rfl,_⟩:=fU c d e _ _ (wM (b:=97) J J) (wM (b:=98) J J);obtain⟨ys,Z,q,rfl,_⟩:=n8 g;obtain⟨ys,h3,r,rfl,_⟩:=nN g;obtain⟨n,_,h4⟩:=j7 _ wO;refine dC.of ?_;rw [a_];simp only [WI,zz,h0,U,Z,h3,h4,CW]
 repeat' first |exact .out I0|exact .out (IZ J)|refine .ite (fun _=>?_) (fun _=>?_)
theorem Xv (a b c d e f g h i:Int):dC 12550 [a,b,c,d,e,f,g,h,i] (T9 g):=by
 obtain⟨ys,h0,o,rfl,_⟩:=fU 1 a b _ _ (wM (b:=98) J J) wO;obtain⟨ys,U,o',rfl,_⟩:=fU c d e _ _ (wM (b:=97) J J) (wM (b:=98) J J);obtain⟨ys,Z,q,rfl,_⟩:=n8 g;obtain⟨ys,h3,r,rfl,_⟩:=nN g;obtain⟨n,_,h4⟩:=j7 _ wO;refine dC.of ?_;rw [Z8];simp only [WG,zz,h0,U,Z,h3,h4,CW]
 repeat' first |exact .out I0|exact .out (IZ J)|refine .ite (fun _=>?_) (fun _=>?_)
def X9 (e:Int) (m k:Nat) (ys:List Int):Prop:=(∃l,ys=0::l)\/(m=1/\low ys 0=1/\low ys k=1/\low ys (k+1)=enc (dL [E1])/\e<=23)
theorem uT {e:Int} {m k:Nat} {l:List Int}:X9 e m k (0::l):=.inl ⟨l,rfl⟩
def qV (m:Nat):D:=dL (List.replicate m E1)
theorem rM (m:Nat):(qV m).l.length=m:=by unfold qV; rw [bJ,ani]
theorem uL (m:Nat) (hm:1<=m) (a b c d e f g:Int):dC 12600 [a,b,c,d,e,f,enc (qV m),g] (X9 e m 9):=by
 obtain⟨ys,U,o,rfl,_⟩:=fU a b c _ _ (wM (b:=97) J J) wO;obtain⟨ys,Z,q,rfl,hq⟩:=n8 e;obtain⟨ys,h3,r,rfl,_⟩:=nN e;obtain⟨n,_,h4⟩:=j7 _ wO;refine dC.of ?_;rw [Z7];by_cases h:m=1
 ·subst h;have h5:=wg;simp only [NA,zz,U,Z,h3,h4,qV,List.replicate,h5]
  repeat' first |exact .out uT|exact .out (.inr ⟨rfl,rfl,rfl,rfl,J⟩)|refine .ite (fun _=>?_) (fun _=>?_)
 ·have c1: ¬((m:Int)=q):=by rcases hq with rfl|rfl<;>omega
  simp only [NA,zz,U,Z,h3,h4,rM,c1]
  repeat' first |exact .out uT|refine .ite (fun _=>?_) (fun _=>?_)
theorem uK (m:Nat) (hm:1<=m) (a b c d e f g:Int):dC 12700 [a,b,c,d,e,f,enc (qV m),g] (X9 e m 9):=by
 obtain⟨ys,U,o,rfl,_⟩:=fU a b c _ _ (wM (b:=97) J J) wO;obtain⟨ys,Z,q,rfl,hq⟩:=n8 e;obtain⟨ys,h3,r,rfl,_⟩:=nN e;obtain⟨n,_,h4⟩:=j7 _ wO;refine dC.of ?_;rw [Z5];by_cases h:m=1
 ·subst h;have h5:=wg;simp only [Ny,zz,U,Z,h3,h4,qV,List.replicate,h5]
  repeat' first |exact .out uT|exact .out (.inr ⟨rfl,rfl,rfl,rfl,J⟩)|refine .ite (fun _=>?_) (fun _=>?_)
 ·have c1: ¬((m:Int)=q):=by rcases hq with rfl|rfl<;>omega
  simp only [Ny,zz,U,Z,h3,h4,rM,c1]
  repeat' first |exact .out uT|refine .ite (fun _=>?_) (fun _=>?_)
theorem Xu (m:Nat) (hm:1<=m) (a b c d e f g h' i:Int):dC 12650 [a,b,c,d,e,f,g,h',enc (qV m),i] (X9 g m 11):=by
 obtain⟨ys,h0,o,rfl,_⟩:=fU 1 a b _ _ (wM (b:=98) J J) wO;obtain⟨ys,U,o',rfl,_⟩:=fU c d e _ _ (wM (b:=97) J J) (wM (b:=98) J J);obtain⟨ys,Z,q,rfl,hq⟩:=n8 g;obtain⟨ys,h3,r,rfl,_⟩:=nN g;obtain⟨n,_,h4⟩:=j7 _ wO;refine dC.of ?_;rw [Z6];by_cases h:m=1
 ·subst h;have h5:=wg;simp only [Nz,zz,h0,U,Z,h3,h4,qV,List.replicate,h5]
  repeat' first |exact .out uT|exact .out (.inr ⟨rfl,rfl,rfl,rfl,J⟩)|refine .ite (fun _=>?_) (fun _=>?_)
 ·have c1: ¬((m:Int)=q):=by rcases hq with rfl|rfl<;>omega
  simp only [Nz,zz,h0,U,Z,h3,h4,rM,c1]
  repeat' first |exact .out uT|refine .ite (fun _=>?_) (fun _=>?_)
theorem Xt (m:Nat) (hm:1<=m) (a b c d e f g h' i:Int):dC 12750 [a,b,c,d,e,f,g,h',enc (qV m),i] (X9 g m 11):=by
 obtain⟨ys,h0,o,rfl,_⟩:=fU 1 a b _ _ (wM (b:=98) J J) wO;obtain⟨ys,U,o',rfl,_⟩:=fU c d e _ _ (wM (b:=97) J J) (wM (b:=98) J J);obtain⟨ys,Z,q,rfl,hq⟩:=n8 g;obtain⟨ys,h3,r,rfl,_⟩:=nN g;obtain⟨n,_,h4⟩:=j7 _ wO;refine dC.of ?_;rw [Z4];by_cases h:m=1
 ·subst h;have h5:=wg;simp only [Nx,zz,h0,U,Z,h3,h4,qV,List.replicate,h5]
  repeat' first |exact .out uT|exact .out (.inr ⟨rfl,rfl,rfl,rfl,J⟩)|refine .ite (fun _=>?_) (fun _=>?_)
 ·have c1: ¬((m:Int)=q):=by rcases hq with rfl|rfl<;>omega
  simp only [Nx,zz,h0,U,Z,h3,h4,rM,c1]
  repeat' first |exact .out uT|refine .ite (fun _=>?_) (fun _=>?_)
end Go.As.Try
end
section
namespace Go.As.Try
open Go hiding Stat Spec shape
open Go.As
set_option maxRecDepth 100000
set_option maxHeartbeats 4000000
def D? (kd e a b:Int) (ys:List Int):Prop:= ∃c:Int,ys= [c]/\(c=0\/c=1)/\(c=1->(a= -1\/b≠0)/\e<=23/\(e=7->kd≠4)/\(e=4->kd=1))
theorem fw {kd e a b:Int}:D? kd e a b [0]:=⟨0,rfl,.inl rfl,fun h=>absurd h J⟩
theorem CG (x:Int): ∃ys,L 1200 [x]=some ys/\∃k:Int,ys= [k]/\(x=7->k=2)/\(x=4->k=1):=by
 have:dC 1200 [x] (fun ys=> ∃k:Int,ys= [k]/\(x=7->k=2)/\(x=4->k=1)):=by
  refine dC.of ?_;rw [adw];simp only [ab8,zz]
  repeat' first |exact .out ⟨_,rfl,J,J⟩|refine .ite (fun _=>?_) (fun _=>?_)
 exact this
theorem kV {kd e a b:Int} (h:(a= -1\/b≠0)/\e<=23/\(e=7->kd≠4)/\(e=4->kd=1)):D? kd e a b [1]:=⟨1,rfl,.inr rfl,fun _=>h⟩
theorem dC.mono {j:Nat} {xs:List Int} {p q:List Int->Prop} (h:dC j xs p) (f: ∀ys,p ys->q ys):dC j xs q:=by obtain⟨ys,a,b⟩:=h;exact⟨ys,a,f ys b⟩
theorem aaZ (x0 x2 x3 x4 x5 x6 x7 x8:Int):dC 951 [x0,0,x2,x3,x4,x5,x6,x7,x8] (D? x0 x3 x5 0):=by
 obtain⟨ys,a1,b1,l1,rfl,g1⟩:=IC x0 1 0 0 x3 0 0;obtain⟨ys,a2,b2,l2,rfl,g2⟩:=IC x0 0 0 0 x3 0 0;obtain⟨ys,a3,b3,l3,rfl,g3⟩:=Xw 0 0 x0 0 0 0 x3 0 0;obtain⟨ys,a4,b4,l4,rfl,g4⟩:=IB x0 1 0 0 x3 0 0;obtain⟨ys,a5,b5,l5,rfl,g5⟩:=IB x0 0 0 0 x3 0 0;obtain⟨ys,a6,b6,l6,rfl,g6⟩:=Xv 0 0 x0 0 0 0 x3 0 0;obtain⟨ys,a7,k,rfl,hk7,hk4⟩:=CG x3;refine dC.of ?_;rw [af0];simp only [aeB,zz,aG,a1,a2,a3,a4,a5,a6,a7,VW,VV]
 repeat' first |exact .out fw|exact .out (kV J)|refine .ite (fun _=>?_) (fun _=>?_)|(exfalso; omega)
theorem aaY (x0 x2 x3 x4 x5 x6 x7 x8:Int):dC 952 [x0,0,x2,x3,x4,x5,x6,x7,x8] (D? x0 x3 x5 1):=by
 obtain⟨ys,a1,b1,l1,rfl,g1⟩:=IC x0 1 0 0 x3 0 0;obtain⟨ys,a2,b2,l2,rfl,g2⟩:=IC x0 0 0 0 x3 0 0;obtain⟨ys,a3,b3,l3,rfl,g3⟩:=Xw 0 0 x0 0 0 0 x3 0 0;obtain⟨ys,a4,b4,l4,rfl,g4⟩:=IB x0 1 0 0 x3 0 0;obtain⟨ys,a5,b5,l5,rfl,g5⟩:=IB x0 0 0 0 x3 0 0;obtain⟨ys,a6,b6,l6,rfl,g6⟩:=Xv 0 0 x0 0 0 0 x3 0 0;obtain⟨ys,a7,k,rfl,hk7,hk4⟩:=CG x3;refine dC.of ?_;rw [afZ];simp only [aeA,zz,aG,a1,a2,a3,a4,a5,a6,a7,VW,VV]
 repeat' first |exact .out fw|exact .out (kV J)|refine .ite (fun _=>?_) (fun _=>?_)|(exfalso; omega)
theorem Mp (m:Nat) (hm:1<=m) (x0 x3 x4 x5 x6 x7 x8 x9:Int):dC 953 [x0,(m:Int),(m:Int),x3,x4,x5,x6,x7,x8,x9,enc (qV m)] (D? x0 x4 x6 0):=by
 obtain⟨ys,a7,k,rfl,hk7,hk4⟩:=CG x4;by_cases hn:x6= -1
 ·by_cases h3:x0=3
  ·subst h3;obtain⟨ys,hR,hC⟩:=uL m hm 3 1 0 0 x4 0 0;refine dC.of ?_;rw [Cn];rcases hC with ⟨l,rfl⟩|⟨rfl,q1,q2,q3,q4⟩
   ·simp only [qd,zz,aG,hn,hR,Int.reduceEq];exact .out fw
   ·simp only [qd,zz,aG,hn,hR,q1,q2,q3,a7,lh,Int.reduceEq,bk]
    repeat' first |exact .out fw|exact .out (kV J)|refine .ite (fun _=>?_) (fun _=>?_)|(exfalso; omega)
  by_cases h8:x0=8
  ·subst h8;obtain⟨ys,hR,hC⟩:=uL m hm 8 1 0 0 x4 0 0;refine dC.of ?_;rw [Cn];rcases hC with ⟨l,rfl⟩|⟨rfl,q1,q2,q3,q4⟩
   ·simp only [qd,zz,aG,hn,hR,Int.reduceEq];exact .out fw
   ·simp only [qd,zz,aG,hn,hR,q1,q2,q3,a7,lh,Int.reduceEq,bk]
    repeat' first |exact .out fw|exact .out (kV J)|refine .ite (fun _=>?_) (fun _=>?_)|(exfalso; omega)
  by_cases h5:x0=5
  ·subst h5;obtain⟨ys,hR,hC⟩:=uL m hm 5 1 0 0 x4 0 0;refine dC.of ?_;rw [Cn];rcases hC with ⟨l,rfl⟩|⟨rfl,q1,q2,q3,q4⟩
   ·simp only [qd,zz,aG,hn,hR,Int.reduceEq];exact .out fw
   ·simp only [qd,zz,aG,hn,hR,q1,q2,q3,a7,lh,Int.reduceEq,bk]
    repeat' first |exact .out fw|exact .out (kV J)|refine .ite (fun _=>?_) (fun _=>?_)|(exfalso; omega)
  by_cases h4:x0=4
  ·subst h4;obtain⟨ys,hR,hC⟩:=Xu m hm 0 0 4 0 0 0 x4 0 0;refine dC.of ?_;rw [Cn];rcases hC with ⟨l,rfl⟩|⟨rfl,q1,q2,q3,q4⟩
   ·simp only [qd,zz,aG,hn,hR,Int.reduceEq];exact .out fw
   ·simp only [qd,zz,aG,hn,hR,q1,q2,q3,a7,Ie,Int.reduceEq,bk]
    repeat' first |exact .out fw|exact .out (kV J)|refine .ite (fun _=>?_) (fun _=>?_)|(exfalso; omega)
  obtain⟨ys,hR,hC⟩:=uL m hm x0 0 0 0 x4 0 0;refine dC.of ?_;rw [Cn];rcases hC with ⟨l,rfl⟩|⟨rfl,q1,q2,q3,q4⟩
  ·simp only [qd,zz,aG,hn,h3,h8,h5,h4,hR,Int.reduceEq];exact .out fw
  ·simp only [qd,zz,aG,hn,h3,h8,h5,h4,hR,q1,q2,q3,a7,lh,Int.reduceEq,bk]
   repeat' first |exact .out fw|exact .out (kV J)|refine .ite (fun _=>?_) (fun _=>?_)|(exfalso; omega)
 ·by_cases h3:x0=3
  ·subst h3;obtain⟨ys,hR,hC⟩:=uK m hm 3 1 0 0 x4 0 0;refine dC.of ?_;rw [Cn];rcases hC with ⟨l,rfl⟩|⟨rfl,q1,q2,q3,q4⟩
   ·simp only [qd,zz,aG,hn,hR,Int.reduceEq];exact .out fw
   ·simp only [qd,zz,aG,hn,hR,q1,q2,q3,a7,lh,Int.reduceEq,bk]
    repeat' first |exact .out fw|exact .out (kV J)|refine .ite (fun _=>?_) (fun _=>?_)|(exfalso; omega)
  by_cases h8:x0=8
  ·subst h8;obtain⟨ys,hR,hC⟩:=uK m hm 8 1 0 0 x4 0 0;refine dC.of ?_;rw [Cn];rcases hC with ⟨l,rfl⟩|⟨rfl,q1,q2,q3,q4⟩
   ·simp only [qd,zz,aG,hn,hR,Int.reduceEq];exact .out fw
   ·simp only [qd,zz,aG,hn,hR,q1,q2,q3,a7,lh,Int.reduceEq,bk]
    repeat' first |exact .out fw|exact .out (kV J)|refine .ite (fun _=>?_) (fun _=>?_)|(exfalso; omega)
  by_cases h5:x0=5
  ·subst h5;obtain⟨ys,hR,hC⟩:=uK m hm 5 1 0 0 x4 0 0;refine dC.of ?_;rw [Cn];rcases hC with ⟨l,rfl⟩|⟨rfl,q1,q2,q3,q4⟩
   ·simp only [qd,zz,aG,hn,hR,Int.reduceEq];exact .out fw
   ·simp only [qd,zz,aG,hn,hR,q1,q2,q3,a7,lh,Int.reduceEq,bk]
    repeat' first |exact .out fw|exact .out (kV J)|refine .ite (fun _=>?_) (fun _=>?_)|(exfalso; omega)
  by_cases h4:x0=4
  ·subst h4;obtain⟨ys,hR,hC⟩:=Xt m hm 0 0 4 0 0 0 x4 0 0;refine dC.of ?_;rw [Cn];rcases hC with ⟨l,rfl⟩|⟨rfl,q1,q2,q3,q4⟩
   ·simp only [qd,zz,aG,hn,hR,Int.reduceEq];exact .out fw
   ·simp only [qd,zz,aG,hn,hR,q1,q2,q3,a7,Ie,Int.reduceEq,bk]
    repeat' first |exact .out fw|exact .out (kV J)|refine .ite (fun _=>?_) (fun _=>?_)|(exfalso; omega)
  obtain⟨ys,hR,hC⟩:=uK m hm x0 0 0 0 x4 0 0;refine dC.of ?_;rw [Cn];rcases hC with ⟨l,rfl⟩|⟨rfl,q1,q2,q3,q4⟩
  ·simp only [qd,zz,aG,hn,h3,h8,h5,h4,hR,Int.reduceEq];exact .out fw
  ·simp only [qd,zz,aG,hn,h3,h8,h5,h4,hR,q1,q2,q3,a7,lh,Int.reduceEq,bk]
   repeat' first |exact .out fw|exact .out (kV J)|refine .ite (fun _=>?_) (fun _=>?_)|(exfalso; omega)
theorem R8 (M:Nat) (hM:M<=2513169434915) (x0 x3 x4 x5 x6 x7 x8 x9:Int): ∀(j m:Nat),m+j=M->1<=m->dC 953 [x0,(M:Int),(m:Int),x3,x4,x5,x6,x7,x8,x9,enc (qV m)] (D? x0 x4 x6 0)
 |0,m,U,Z=>by
  obtain rfl:M=m:=J
  exact Mp M Z x0 x3 x4 x5 x6 x7 x8 x9
 |j+1,m,U,Z=>by
  have ih:=R8 M hM x0 x3 x4 x5 x6 x7 x8 x9 j (m+1) J J;have c1:(m:Int)<(M:Int):=J
  have c2:((m:Nat):Int)<2513169434915:=J
  have w:=bS (n:=m) J
  have hr:qV (m+1)=dL ((qV m).l++ [E1]):=by unfold qV;rw [bJ,List.replicate_succ']
  rw [hr] at ih;refine dC.of ?_;rw [Cn];simp only [qd,zz,c1,c2,rM,w];exact .jump ih
theorem Mn (m:Nat) (hm:1<=m) (x0 x3 x4 x5 x6 x7 x8 x9:Int):dC 954 [x0,(m:Int),(m:Int),x3,x4,x5,x6,x7,x8,x9,enc (qV m)] (D? x0 x4 x6 1):=by
 obtain⟨ys,a7,k,rfl,hk7,hk4⟩:=CG x4;by_cases hn:x6= -1
 ·by_cases h3:x0=3
  ·subst h3;obtain⟨ys,hR,hC⟩:=uL m hm 3 1 0 0 x4 0 0;refine dC.of ?_;rw [Cm];rcases hC with ⟨l,rfl⟩|⟨rfl,q1,q2,q3,q4⟩
   ·simp only [qc,zz,aG,hn,hR,Int.reduceEq];exact .out fw
   ·simp only [qc,zz,aG,hn,hR,q1,q2,q3,a7,lh,Int.reduceEq,bk]
    repeat' first |exact .out fw|exact .out (kV J)|refine .ite (fun _=>?_) (fun _=>?_)|(exfalso; omega)
  by_cases h8:x0=8
  ·subst h8;obtain⟨ys,hR,hC⟩:=uL m hm 8 1 0 0 x4 0 0;refine dC.of ?_;rw [Cm];rcases hC with ⟨l,rfl⟩|⟨rfl,q1,q2,q3,q4⟩
   ·simp only [qc,zz,aG,hn,hR,Int.reduceEq];exact .out fw
   ·simp only [qc,zz,aG,hn,hR,q1,q2,q3,a7,lh,Int.reduceEq,bk]
    repeat' first |exact .out fw|exact .out (kV J)|refine .ite (fun _=>?_) (fun _=>?_)|(exfalso; omega)
  by_cases h5:x0=5
  ·subst h5;obtain⟨ys,hR,hC⟩:=uL m hm 5 1 0 0 x4 0 0;refine dC.of ?_;rw [Cm];rcases hC with ⟨l,rfl⟩|⟨rfl,q1,q2,q3,q4⟩
   ·simp only [qc,zz,aG,hn,hR,Int.reduceEq];exact .out fw
   ·simp only [qc,zz,aG,hn,hR,q1,q2,q3,a7,lh,Int.reduceEq,bk]
    repeat' first |exact .out fw|exact .out (kV J)|refine .ite (fun _=>?_) (fun _=>?_)|(exfalso; omega)
  by_cases h4:x0=4
  ·subst h4;obtain⟨ys,hR,hC⟩:=Xu m hm 0 0 4 0 0 0 x4 0 0;refine dC.of ?_;rw [Cm];rcases hC with ⟨l,rfl⟩|⟨rfl,q1,q2,q3,q4⟩
   ·simp only [qc,zz,aG,hn,hR,Int.reduceEq];exact .out fw
   ·simp only [qc,zz,aG,hn,hR,q1,q2,q3,a7,Ie,Int.reduceEq,bk]
    repeat' first |exact .out fw|exact .out (kV J)|refine .ite (fun _=>?_) (fun _=>?_)|(exfalso; omega)
  obtain⟨ys,hR,hC⟩:=uL m hm x0 0 0 0 x4 0 0;refine dC.of ?_;rw [Cm];rcases hC with ⟨l,rfl⟩|⟨rfl,q1,q2,q3,q4⟩
  ·simp only [qc,zz,aG,hn,h3,h8,h5,h4,hR,Int.reduceEq];exact .out fw
  ·simp only [qc,zz,aG,hn,h3,h8,h5,h4,hR,q1,q2,q3,a7,lh,Int.reduceEq,bk]
   repeat' first |exact .out fw|exact .out (kV J)|refine .ite (fun _=>?_) (fun _=>?_)|(exfalso; omega)
 ·by_cases h3:x0=3
  ·subst h3;obtain⟨ys,hR,hC⟩:=uK m hm 3 1 0 0 x4 0 0;refine dC.of ?_;rw [Cm];rcases hC with ⟨l,rfl⟩|⟨rfl,q1,q2,q3,q4⟩
   ·simp only [qc,zz,aG,hn,hR,Int.reduceEq];exact .out fw
   ·simp only [qc,zz,aG,hn,hR,q1,q2,q3,a7,lh,Int.reduceEq,bk]
    repeat' first |exact .out fw|exact .out (kV J)|refine .ite (fun _=>?_) (fun _=>?_)|(exfalso; omega)
  by_cases h8:x0=8
  ·subst h8;obtain⟨ys,hR,hC⟩:=uK m hm 8 1 0 0 x4 0 0;refine dC.of ?_;rw [Cm];rcases hC with ⟨l,rfl⟩|⟨rfl,q1,q2,q3,q4⟩
   ·simp only [qc,zz,aG,hn,hR,Int.reduceEq];exact .out fw
   ·simp only [qc,zz,aG,hn,hR,q1,q2,q3,a7,lh,Int.reduceEq,bk]
    repeat' first |exact .out fw|exact .out (kV J)|refine .ite (fun _=>?_) (fun _=>?_)|(exfalso; omega)
  by_cases h5:x0=5
  ·subst h5;obtain⟨ys,hR,hC⟩:=uK m hm 5 1 0 0 x4 0 0;refine dC.of ?_;rw [Cm];rcases hC with ⟨l,rfl⟩|⟨rfl,q1,q2,q3,q4⟩
   ·simp only [qc,zz,aG,hn,hR,Int.reduceEq];exact .out fw
   ·simp only [qc,zz,aG,hn,hR,q1,q2,q3,a7,lh,Int.reduceEq,bk]
    repeat' first |exact .out fw|exact .out (kV J)|refine .ite (fun _=>?_) (fun _=>?_)|(exfalso; omega)
  by_cases h4:x0=4
  ·subst h4;obtain⟨ys,hR,hC⟩:=Xt m hm 0 0 4 0 0 0 x4 0 0;refine dC.of ?_;rw [Cm];rcases hC with ⟨l,rfl⟩|⟨rfl,q1,q2,q3,q4⟩
   ·simp only [qc,zz,aG,hn,hR,Int.reduceEq];exact .out fw
   ·simp only [qc,zz,aG,hn,hR,q1,q2,q3,a7,Ie,Int.reduceEq,bk]
    repeat' first |exact .out fw|exact .out (kV J)|refine .ite (fun _=>?_) (fun _=>?_)|(exfalso; omega)
  obtain⟨ys,hR,hC⟩:=uK m hm x0 0 0 0 x4 0 0;refine dC.of ?_;rw [Cm];rcases hC with ⟨l,rfl⟩|⟨rfl,q1,q2,q3,q4⟩
  ·simp only [qc,zz,aG,hn,h3,h8,h5,h4,hR,Int.reduceEq];exact .out fw
  ·simp only [qc,zz,aG,hn,h3,h8,h5,h4,hR,q1,q2,q3,a7,lh,Int.reduceEq,bk]
   repeat' first |exact .out fw|exact .out (kV J)|refine .ite (fun _=>?_) (fun _=>?_)|(exfalso; omega)
theorem R7 (M:Nat) (hM:M<=2513169434915) (x0 x3 x4 x5 x6 x7 x8 x9:Int): ∀(j m:Nat),m+j=M->1<=m->dC 954 [x0,(M:Int),(m:Int),x3,x4,x5,x6,x7,x8,x9,enc (qV m)] (D? x0 x4 x6 1)
 |0,m,U,Z=>by
  obtain rfl:M=m:=J
  exact Mn M Z x0 x3 x4 x5 x6 x7 x8 x9
 |j+1,m,U,Z=>by
  have ih:=R7 M hM x0 x3 x4 x5 x6 x7 x8 x9 j (m+1) J J;have c1:(m:Int)<(M:Int):=J
  have c2:((m:Nat):Int)<2513169434915:=J
  have w:=bS (n:=m) J
  have hr:qV (m+1)=dL ((qV m).l++ [E1]):=by unfold qV;rw [bJ,List.replicate_succ']
  rw [hr] at ih;refine dC.of ?_;rw [Cm];simp only [qc,zz,c1,c2,rM,w];exact .jump ih
theorem Mm (x0 x1 x2 x3 x4 x5 x6 x8:Int) (d:D) (hd:d.l.length<=2513169434915):dC 950 [x0,x1,x2,x3,x4,x5,x6,enc d,x8] (D? x0 x2 x4 x8):=by
 have key: ∀(t t2:Nat) (b:Int),(t=951/\t2=953/\b=0)\/(t=952/\t2=954/\b=1)->dC t [x0,(d.l.length:Int),x1,x2,x3,x4,x5,x6,enc d] (D? x0 x2 x4 b):=by
  intro t t2 b ht;by_cases h0:d.l.length=0
  ·rw [h0];rcases ht with ⟨rfl,rfl,rfl⟩|⟨rfl,rfl,rfl⟩
   ·exact aaZ x0 x1 x2 x3 x4 x5 x6 (enc d)
   ·exact aaY x0 x1 x2 x3 x4 x5 x6 (enc d)
  ·have c1:(0:Int)<(d.l.length:Int):=J
   have hr:enc (qV 1)=enc (dL ([]++ [E1])):=rfl;rcases ht with ⟨rfl,rfl,rfl⟩|⟨rfl,rfl,rfl⟩
   ·have:=R8 d.l.length hd x0 x1 x2 x3 x4 x5 x6 (enc d) (d.l.length-1) 1 J J;rw [hr] at this;refine dC.of ?_;rw [af0];simp only [aeB,zz,c1,mI];exact .jump this
   ·have:=R7 d.l.length hd x0 x1 x2 x3 x4 x5 x6 (enc d) (d.l.length-1) 1 J J;rw [hr] at this;refine dC.of ?_;rw [afZ];simp only [aeA,zz,c1,mI];exact .jump this
 refine dC.of ?_;rw [aj3];simp only [ahF,zz];exact .ite (fun h=> .jump ((key 951 953 0 (.inl ⟨rfl,rfl,rfl⟩)).mono fun ys ⟨c,a,b,e⟩=> ⟨c,a,b,fun q=>by have:=e q; omega⟩)) fun h=> .jump ((key 952 954 1 (.inr ⟨rfl,rfl,rfl⟩)).mono fun ys ⟨c,a,b,e⟩=> ⟨c,a,b,fun q=> ⟨.inr h,(e q).2⟩⟩)
end Go.As.Try
end
section
namespace Go.As.Try
open Go hiding Stat Spec shape
open Go.As
set_option maxRecDepth 100000
def OkI (d0:D) (nl nc:Nat) (dx op ob D7 to:Int) (na:Nat):Prop:=
 (dx=1/\0<=ob/\ob<(d0.l.length:Int)/\(D7= -1\/0<=D7/\D7<(nl:Int))/\(op=16->0<=to/\to<=(nc:Int)))\/
 (dx=2/\0<=ob/\ob<(d0.l.length:Int))\/(dx=3/\0<=D7/\D7<(nl:Int)/\(na:Int)=1)\/(dx=4/\0<=to/\to<=(nc:Int)/\(na:Int)=1)\/
 (dx=5/\0<=to/\to<=(nc:Int))\/(dx=6/\0<=D7/\D7<(nl:Int))\/(dx=7/\0<=D7/\D7<(nl:Int)/\0<=to/\to<=(nc:Int))
def isI (p:Prop) (ys:List Int):Prop:= ∃c:Int,ys= [c]/\(c=0\/c=1)/\(c=1->p)
theorem ajf {p:Prop}:isI p [0]:=⟨0,rfl,.inl rfl,fun h=>absurd h J⟩
theorem aje {p:Prop} (h:p):isI p [1]:=⟨1,rfl,.inr rfl,fun _=>h⟩
def OkO (d0:D) (k n:Int):Prop:=1<=k/\k<=9/\(k=1\/k=2\/k=6\/k=7->n=0)/\(k=3\/k=8->1<=n/\n<=1048576)/\(k=5->1<=n/\n<=16)/\(k=4->0<=n/\n<(d0.l.length:Int)/\((d0.at n).hd 0).n=1)
def XA (d0:D) (x:D):Prop:=OkO d0 (x.hd 0).n (x.hd 2).n
def afi (d0:D) (k n:Int) (ys:List Int):Prop:= ∃b:Int,ys= [b]/\(b=0\/b=1)/\(b≠0->OkO d0 k n)
def uO (d0 d1:D):Prop:=d0.l.length<=64/\d1.l.length<=16/\∀x∈d0.l,XA d0 x
def acs (d0 x:D):Prop:= ∀y∈(x.hd 2).l,OkI d0 (x.hd 1).l.length (x.hd 2).l.length (y.hd 0).n (y.hd 1).n (y.hd 2).n (y.hd 3).n (y.hd 4).n (y.hd 6).l.length
def ajg (d0 d1:D) (ys:List Int):Prop:= ∃b:Int,ys= [b]/\(b=0\/b=120)/\(b=0->uO d0 d1/\∀x∈d1.l,acs d0 x)
def OkJ (d0:D) (nl nc:Nat) (dx op ob D7 to:Int) (na:Nat):Prop:=OkI d0 nl nc dx op ob D7 to na/\(dx=1->op<=23/\(op=7->((d0.at ob).hd 0).n≠4)/\(op=4->((d0.at ob).hd 0).n=1))
def D8 (d0 x:D):Prop:= ∀y∈(x.hd 2).l,OkJ d0 (x.hd 1).l.length (x.hd 2).l.length (y.hd 0).n (y.hd 1).n (y.hd 2).n (y.hd 3).n (y.hd 4).n (y.hd 6).l.length
def xH (d0 d1:D) (ys:List Int):Prop:= ∃b:Int,ys= [b]/\(b=0\/b=120)/\(b=0->uO d0 d1/\∀x∈d1.l,D8 d0 x)
theorem yo {d:D} (h:Wd (.sl 4) d) {i:Nat} (hi:i<d.l.length): ∃wZ lc cd,d.l[i]=dL [wZ,lc,cd]/\Wd .str wZ/\Wd (.sl 2) lc/\Wd (.sl 5) cd:=by
 obtain⟨r,U,Y,hc⟩:=h.elN (cs:=[.str,.sl 2,.sl 5]) rfl _ (az hi)
 match r,Y with
 |[a,b,c],_=>exact⟨a,b,c,U,hc 0 _ _ rfl rfl,hc 1 _ _ rfl rfl,hc 2 _ _ rfl rfl⟩
theorem Oh {d:D} (h:Wd (.sl 5) d) {i:Nat} (hi:i<d.l.length): ∃a b c e f g FI,d.l[i]=dL [.i a,.i b,.i c,.i e,.i f,.i g,FI]/\gq .u8 a/\gq .u8 b/\gq .i64 c/\gq .i64 e/\gq .i64 f/\gq .i64 g/\Wd (.sl 6) FI:=by
 obtain⟨r,U,Y,hc⟩:=h.elN (cs:=[.int .u8,.int .u8,.int .i64,.int .i64,.int .i64,.int .i64,.sl 6]) rfl _ (az hi)
 match r,Y with
 |[a,b,c,e,f,g,FI],_=> obtain⟨a,rfl,ha⟩:=(hc 0 _ _ rfl rfl).i;obtain⟨b,rfl,hb⟩:=(hc 1 _ _ rfl rfl).i;obtain⟨c,rfl,hc'⟩:=(hc 2 _ _ rfl rfl).i;obtain⟨e,rfl,he⟩:=(hc 3 _ _ rfl rfl).i;obtain⟨f,rfl,hf⟩:=(hc 4 _ _ rfl rfl).i;obtain⟨g,rfl,hg⟩:=(hc 5 _ _ rfl rfl).i;exact⟨a,b,c,e,f,g,FI,U,ha,hb,hc',he,hf,hg,hc 6 _ _ rfl rfl⟩
set_option maxHeartbeats 2000000 in
theorem aam (d0 d1 d3 d4 d:D) (x2 x5 x6 x7 x8 x9 S7:Int) (hd:d.l.length<=2513169434915):dC 750 [enc d0,enc d1,x2,enc d3,enc d4,x5,x6,x7,x8,x9,S7,enc d] (isI (OkJ d0 d3.l.length d4.l.length x5 x6 x7 x8 x9 d.l.length)):=by
 unfold OkJ OkI;obtain⟨ys,h0,b0,rfl,p0,f0⟩:=Mm ((d0.at x7).hd 0).n x5 x6 x7 x8 x9 S7 0 d hd;obtain⟨ys,U,b1,rfl,p1,f1⟩:=Mm ((d0.at x7).hd 0).n x5 x6 x7 x8 x9 S7 1 d hd;have u0: ¬b0=0->x6<=23/\(x6=7->((d0.at x7).hd 0).n≠4)/\(x6=4->((d0.at x7).hd 0).n=1):=fun h=>(f0 (p0.resolve_left h)).2;have u1: ¬b1=0->x6<=23/\(x6=7->((d0.at x7).hd 0).n≠4)/\(x6=4->((d0.at x7).hd 0).n=1):=fun h=>(f1 (p1.resolve_left h)).2;have w0: ¬b0=0->x8= -1:=fun h=>by have:=(f0 (p0.resolve_left h)).1; omega
 clear f0 f1 p0 p1;refine dC.of ?_;rw [aj7];simp only [ahN,zz,h0,U]
 repeat' first
  |exact .out ajf
  |exact .out (aje ⟨by clear u0 u1; omega,by
   first
   |exact fun _=>u0 (by assumption)
   |exact fun _=>u1 (by assumption)
   |(intro h; exfalso; clear u0 u1 w0; omega)⟩)
  |refine .ite (fun _=>?_) (fun _=>?_)
theorem TU (d0:D) (x1 x2 x3 x4 x5 x6:Int):dC 700 [enc d0,x1,x2,x3,x4,x5,x6] (afi d0 x2 x4):=by
 refine dC.of ?_;rw [aj8];simp only [ahO,zz]
 repeat' first
  |exact .out ⟨0,rfl,.inl rfl,fun h=>absurd rfl h⟩
  |exact .out ⟨1,rfl,.inr rfl,fun _=> ⟨J,J,J,J,J,fun h4=>by first |omega|exact⟨J,J,by assumption⟩⟩⟩
  |refine .ite (fun _=>?_) (fun _=>?_)
section
variable {d0 d1:D} (h0:Wd (.sl 3) d0) (U:Wd (.sl 4) d1)
include U
theorem ym (hx: ∀x y:Int,x=y->True): ∀(j i:Nat),i+j=d1.l.length->dC 453 [enc d1,(d1.l.length:Int),(i:Int),enc d0] (xH d0 d1)
 |0,i,hi=>by
  have c1: ¬(i:Int)<(d1.l.length:Int):=J
  refine dC.of ?_;rw [af8];simp only [aeH,zz,c1];exact .out ⟨120,rfl,.inr rfl,fun h=>by omega⟩
 |j+1,i,hi=>by
  have Y:=U.len;have c1:(i:Int)<(d1.l.length:Int):=J
  have c2: ¬((i:Int)<0):=J
  have w:=bS (n:=i) J;refine dC.of ?_;rw [af8];simp only [aeH,zz,c1,c2];refine .jump (dC.of ?_);rw [af6];simp only [aeF,zz,w];exact .ite (fun _=> .jump (ym hx j (i+1) J)) fun _=> .jump (ym hx j (i+1) J)
theorem Ih (i:Nat) (hi:i<d1.l.length) (j:Nat) (hj:i+1+j=d1.l.length) (x0 x5 x6 x7:Int):dC 455 [x0,enc d1,(d1.l.length:Int),(i:Int),enc d0,x5,x6,x7] (xH d0 d1):=by have Y:=U.len;have w:=bS (n:=i) J;refine dC.of ?_;rw [af6];simp only [aeF,zz,w];exact .ite (fun _=> .jump (ym U (fun _ _ _=>trivial) j (i+1) J)) fun _=> .jump (ym U (fun _ _ _=>trivial) j (i+1) J)
theorem KB (hg:uO d0 d1): ∀(j i:Nat),i+j=d1.l.length->(∀(n:Nat) (h:n<d1.l.length),n<i->D8 d0 d1.l[n])->dC 454 [enc d1,(d1.l.length:Int),(i:Int),enc d0] (xH d0 d1)
 |0,i,hi,hp=>by
  have c1: ¬(i:Int)<(d1.l.length:Int):=J
  refine dC.of ?_;rw [af7];simp only [aeG,zz,c1];refine .out ⟨0,rfl,.inl rfl,fun _=> ⟨hg,fun x hx=>?_⟩⟩;obtain⟨n,hn,rfl⟩:=ank hx;exact hp n hn J
 |j+1,i,hi,hp=>by
  have Y:=U.len;have dX:i<d1.l.length:=J
  have c1:(i:Int)<(d1.l.length:Int):=J
  have c2: ¬((i:Int)<0):=J
  have w:=bS (n:=i) J;obtain⟨wZ,lc,cd,he,hn,hlc,RJ⟩:=yo U dX;have BQ:=RJ.len;have e1:(d1.l[i]).hd 1=lc:=by rw [he,fm]; rfl
  have e2:(d1.l[i]).hd 2=cd:=by rw [he,fm]; rfl
  have loop: ∀(m k:Nat),k+m=cd.l.length->(∀(n:Nat) (h:n<cd.l.length),n<k->OkJ d0 lc.l.length cd.l.length ((cd.l[n]).hd 0).n ((cd.l[n]).hd 1).n ((cd.l[n]).hd 2).n ((cd.l[n]).hd 3).n ((cd.l[n]).hd 4).n ((cd.l[n]).hd 6).l.length)->dC 456 [(k:Int),enc d1,(d1.l.length:Int),(i:Int),enc d0,enc wZ,enc lc,enc cd] (xH d0 d1):=by
   intro m
   induction m with
   |zero=>
    intro k hk hq;have c3: ¬(k:Int)<(cd.l.length:Int):=J
    have ih:=KB hg j (i+1) J fun n hn hni=>by
     by_cases fJ:n=i
     ·subst fJ;unfold D8;rw [e1,e2];intro y hy;obtain⟨z,hz,rfl⟩:=ank hy;exact hq z hz J
     ·exact hp n hn J
    refine dC.of ?_;rw [af5];simp only [aeE,zz,c3,w];exact .jump ih
   |succ m ihm=>
    intro k hk hq;have Ja:k<cd.l.length:=J
    have c3:(k:Int)<(cd.l.length:Int):=J
    have c4: ¬((k:Int)<0):=J
    have w2:=bS (n:=k) J;obtain⟨a,b,c,e,f,g,FI,u6,_,_,_,_,_,_,has⟩:=Oh RJ Ja;have kc:=has.room
    have U9:FI.l.length<=2513169434915:=by have:pW 6=56:=rfl;rw [this] at kc;omega
    obtain⟨ys,hM,q,rfl,amG,hqI⟩:=aam d0 d1 lc cd FI (enc wZ) a b c e f g U9;obtain⟨ys,hX,r,rfl,_⟩:=Uu FI lc (enc wZ) (enc cd) has;refine dC.of ?_;rw [af5];simp only [aeE,zz,c3,c4,bX Ja,u6,zg,hM,hX,w2];refine .ite (fun _=> .jump (Ih U i dX j J _ _ _ _)) fun hq0=> .ite (fun _=> .jump (ihm (k+1) J fun n hn hnk=>?_)) fun _=> .jump (Ih U i dX j J _ _ _ _);by_cases fJ:n=k
    ·subst fJ;simp only [u6,zg];exact hqI J
    ·exact hq n hn J
  refine dC.of ?_;rw [af7];simp only [aeG,zz,c1,c2,bX dX,he,zg];exact .ite (fun _=> .jump (Ih U i dX j J _ _ _ _)) fun _=> .ite (fun _=> .jump (Ih U i dX j J _ _ _ _)) fun _=> .jump (loop cd.l.length 0 J fun n hn h=>absurd h J)
include h0
theorem CJ: ∀(j i:Nat),i+j=d0.l.length->dC 451 [enc d0,(d0.l.length:Int),(i:Int),enc d1] (xH d0 d1)
 |0,i,hi=>by
  have c1: ¬(i:Int)<(d0.l.length:Int):=J
  refine dC.of ?_;rw [aga];simp only [aeJ,zz,c1];exact .jump (ym U (fun _ _ _=>trivial) d1.l.length 0 J)
 |j+1,i,hi=>by
  have Y:=h0.len;have c1:(i:Int)<(d0.l.length:Int):=J
  have c2: ¬((i:Int)<0):=J
  have w:=bS (n:=i) J;refine dC.of ?_;rw [aga];simp only [aeJ,zz,c1,c2,w];exact .jump (CJ j (i+1) J)
theorem K5 (hs:d0.l.length<=64) (ht:d1.l.length<=16): ∀(j i:Nat),i+j=d0.l.length->(∀(k:Nat) (h:k<d0.l.length),k<i->XA d0 d0.l[k])->dC 452 [enc d0,(d0.l.length:Int),(i:Int),enc d1] (xH d0 d1)
 |0,i,hi,hp=>by
  have c1: ¬(i:Int)<(d0.l.length:Int):=J
  refine dC.of ?_;rw [af9];simp only [aeI,zz,c1];refine .jump (KB U ⟨hs,ht,fun x hx=>?_⟩ d1.l.length 0 J fun n hn h=>absurd h J);obtain⟨k,hk,rfl⟩:=ank hx;exact hp k hk J
 |j+1,i,hi,hp=>by
  have dX:i<d0.l.length:=J
  have c1:(i:Int)<(d0.l.length:Int):=J
  have c2: ¬((i:Int)<0):=J
  have w:=bS (n:=i) J;obtain⟨ys,hO,b,rfl,_,I9⟩:=TU d0 (enc d1) ((d0.l[i]).hd 0).n (enc ((d0.l[i]).hd 1)) ((d0.l[i]).hd 2).n (enc ((d0.l[i]).hd 3)) ((d0.l[i]).hd 4).n;refine dC.of ?_;rw [af9];simp only [aeI,zz,c1,c2,w,bX dX,hO];refine .ite (fun _=> .jump (CJ h0 U j (i+1) J)) fun hb=> .jump (K5 hs ht j (i+1) J fun k hk YB=>?_);by_cases hke:k=i
  ·subst hke;exact I9 hb
  ·exact hp k hk J
theorem Fi:dC 450 [enc d0,enc d1] (xH d0 d1):=by
 refine dC.of ?_;rw [akf];simp only [ahV,zz]
 exact .ite (fun _=> .jump (CJ h0 U d0.l.length 0 J)) fun ha=> .ite (fun _=> .jump (CJ h0 U d0.l.length 0 J)) fun hb=>
  .jump (K5 h0 U J J d0.l.length 0 J fun k hk YB=>by omega)
theorem wD:dC 450 [enc d0,enc d1] (ajg d0 d1):=(Fi h0 U).mono fun ys ⟨b,e,q,h⟩=> ⟨b,e,q,fun hb=> ⟨(h hb).1,fun x hx y hy=>((h hb).2 x hx y hy).1⟩⟩
end
def one (ys:List Int):Prop:= ∃k:Int,ys= [k]
theorem ahA {o:Int} (h:gq .u8 o):IntKind.i64.wrap o=o:=mj (by have:=h.1; omega) (by have:=h.2; omega)
theorem XP (a b c d e:Int):dC 650 [a,b,c,d,e] (fun ys=> ∃k l:Int,ys= [k,l]/\(l=0\/l=1)):=by
 refine dC.of ?_;rw [af2];simp only [aeC,zz]
 repeat' first |exact .out ⟨_,_,rfl,.inl rfl⟩|exact .out ⟨_,_,rfl,.inr rfl⟩|refine .ite (fun _=>?_) (fun _=>?_)
theorem Gk (r:D) (Y:r.l.length<=140737488351232) (x0 x4 x5 x6 x7 x8 x9 S7 x11 x12:Int) (v:D): ∀(j i:Nat) (x14:Int),i+j=r.l.length->
 dC 501 [x0,enc r,(r.l.length:Int),(i:Int),x4,x5,x6,x7,x8,x9,S7,x11,x12,enc v,x14] xI
 |0,i,x14,hi=>by
  have c1: ¬(i:Int)<(r.l.length:Int):=J
  refine dC.of ?_;rw [Zu];simp only [Te,zz,c1]
  repeat' first |exact .out sS|exact .out sR|refine .ite (fun _=>?_) (fun _=>?_)
 |j+1,i,x14,hi=>by
  have c1:(i:Int)<(r.l.length:Int):=J
  have c2: ¬((i:Int)<0):=J
  have w:=bS (n:=i) J;have ih:=fun x=>Gk r Y x0 x4 x5 x6 x7 x8 x9 S7 x11 x12 v j (i+1) x J;refine dC.of ?_;rw [Zu];simp only [Te,zz,c1,c2,w]
  repeat' first |exact .out sS|exact .out sR|exact .jump (ih _)|refine .ite (fun _=>?_) (fun _=>?_)
theorem NI (x0 x1 x2 x3 x4 x5 x6 x7 x8 x11:Int) (r v:D) (Y:r.l.length<=140737488351232):dC 500 [x0,x1,x2,x3,x4,x5,x6,x7,x8,enc r,enc v,x11] xI:=by
 obtain⟨ys,hM,a,b,rfl,hb⟩:=XP x0 x1 x2 x3 x4;have ih:=Gk r Y x11 x0 x1 x2 x3 x4 x5 x6 x7 x8 v r.l.length 0 (enc (.i 0)) J;refine dC.of ?_;rw [af4];simp only [Q_,zz,hM]
 repeat' first |exact .out sS|exact .out sR|exact .jump ih|refine .ite (fun _=>?_) (fun _=>?_)
theorem eS {d:D} (hd:d=dL d.l) {i:Nat} (hi:i<d.l.length):dL (fC d.l (i:Int) d.l[i])=d:=by rw [pe,List.set_getElem_self,<- hd]
theorem FO (a b c d e f x:D):fC [a,b,c,d,e,f] 4 x= [a,b,c,d,x,f]:=rfl
theorem FN (a b c d e f x:D):fC [a,b,c,d,e,f] 5 x= [a,b,c,d,e,x]:=rfl
theorem jr: ¬(enc (.i 2)=enc (.i 1)):=fun h=>by have:=hU h; simp at this
theorem iN:(((D.i 1).l.length:Nat):Int)=0:=rfl
theorem jv:(((D.i 2).l.length:Nat):Int)=0:=rfl
theorem qe: ¬((0:Int)<0):=J
theorem cF {r:D} (h:Wd (.sl 0) r):r= .i 1\/r= .i 2\/((0:Int)<(r.l.length:Int)/\(r.l.length:Int)<17592186044416):=by
 rcases h.sh with U|U|⟨U,Z⟩
 ·grind
 ·grind
 ·have hr:=h.room;have h3:pW 0=8:=rfl;rw [h3] at hr;have:=am3.2 Z
  grind
structure Th (d:D):Prop where
 wd:Wd (.sl 7) d
 sh:d=dL d.l
 l7:d.l.length<=1759218604390
theorem wS {d:D} (h:Wd (.sl 7) d) (hn:0<d.l.length):Th d:=by
 refine⟨h,?_,?_⟩
 ·rcases h.sh with rfl|rfl|⟨U,_⟩
  all_goals grind [D.l]
 ·have hr:=h.room
  grind [pW]
theorem HN (d:D) (h:Th d): ∀(j i:Nat),i+j=d.l.length->L 551 [enc d,(d.l.length:Int),(i:Int)]=some [enc d]
 |0,i,hi=>by simp_all [bL,af3,aeD,zz,fin]
 |j+1,i,hi=>by
  have Y:=h.l7;have dX:i<d.l.length:=J
  have c1:(i:Int)<(d.l.length:Int):=J
  have c2: ¬((i:Int)<0):=J
  have w:=bS (n:=i) J;have ih:=HN d h j (i+1) J;obtain⟨o,c,dn,g,r,v,he,_,_,_,_,hr,hv⟩:=h.wd.mN _ (az dX);have hs:=eS h.sh dX;rw [he] at hs;rw [bL,af3];rcases cF hr with rfl|rfl|⟨r1,r2⟩ <;>rcases cF hv with rfl|rfl|⟨v1,v2⟩
  all_goals
   simp only [aeD,zz,c1,c2,w,bX dX,he,fm,bJ,aF,aK,FO,FN,hs,iN,jv,qe,jr]
   try simp only [r1,r2,zz]
   try simp only [v1,v2,zz]
   try simp only [fin]
   exact ih
theorem l! (d:D) (h:Wd (.sl 7) d):L 550 [enc d]=some [enc d]:=by
 rw [bL,ake];rcases h.sh with rfl|rfl|⟨U,Z⟩
 ·simp only [P?,zz,iN,qe,fin];rw [bL,akd];rfl
 ·simp only [P?,zz,jv,qe,jr,fin];rw [bL,akc];rfl
 ·have hp:=am3.2 Z;have ht:=wS h hp;have Y:=ht.l7;have c1:(0:Int)<(d.l.length:Int):=J
  have c2:(d.l.length:Int)<1759218604441:=J
  simp only [P?,zz,c1,c2,fin];exact HN d ht d.l.length 0 J
theorem HS (d:D) (h:Th d) (gi:Nat) (x4 x5 x6 x7 x8 x9:Int): ∀(j i:Nat),gi<i->i+j=d.l.length->L 9004 [(gi:Int),enc d,(d.l.length:Int),(i:Int),x4,x5,x6,x7,x8,x9]=some [3,(gi:Int),enc d,x4,x5,x6,x7,x8,x9]
 |0,i,hg,hi=>by simp_all [bL,Zn,Wc,zz,fin]
 |j+1,i,hg,hi=>by
  have Y:=h.l7;have dX:i<d.l.length:=J
  have c1:(i:Int)<(d.l.length:Int):=J
  have c2: ¬((i:Int)<0):=J
  have c0: ¬((i:Int)=(gi:Int)):=J
  have w:=bS (n:=i) J;have ih:=HS d h gi x4 x5 x6 x7 x8 x9 j (i+1) J J;obtain⟨o,c,dn,g,r,v,he,_,_,_,_,hr,hv⟩:=h.wd.mN _ (az dX);have hs:=eS h.sh dX;rw [he] at hs;rw [bL,Zn];rcases cF hr with rfl|rfl|⟨r1,r2⟩ <;>rcases cF hv with rfl|rfl|⟨v1,v2⟩
  all_goals
   simp only [Wc,zz,c0,c1,c2,w,bX dX,he,fm,bJ,aF,aK,FO,FN,hs,iN,jv,qe,jr]
   try simp only [r1,r2,zz]
   try simp only [v1,v2,zz]
   try simp only [fin]
   exact ih
theorem HR (d:D) (h:Th d) (gi:Nat) (x4 x5 x6 x7 x8 x9:Int): ∀(j i:Nat),gi<i->i+j=d.l.length->L 9005 [(gi:Int),enc d,(d.l.length:Int),(i:Int),x4,x5,x6,x7,x8,x9]=some [4,(gi:Int),enc d,x4,x5,x6,x7,x8,x9]
 |0,i,hg,hi=>by simp_all [bL,Zm,Wb,zz,fin]
 |j+1,i,hg,hi=>by
  have Y:=h.l7;have dX:i<d.l.length:=J
  have c1:(i:Int)<(d.l.length:Int):=J
  have c2: ¬((i:Int)<0):=J
  have c0: ¬((i:Int)=(gi:Int)):=J
  have w:=bS (n:=i) J;have ih:=HR d h gi x4 x5 x6 x7 x8 x9 j (i+1) J J;obtain⟨o,c,dn,g,r,v,he,_,_,_,_,hr,hv⟩:=h.wd.mN _ (az dX);have hs:=eS h.sh dX;rw [he] at hs;rw [bL,Zm];rcases cF hr with rfl|rfl|⟨r1,r2⟩ <;>rcases cF hv with rfl|rfl|⟨v1,v2⟩
  all_goals
   simp only [Wb,zz,c0,c1,c2,w,bX dX,he,fm,bJ,aF,aK,FO,FN,hs,iN,jv,qe,jr]
   try simp only [r1,r2,zz]
   try simp only [v1,v2,zz]
   try simp only [fin]
   exact ih
theorem HQ (d:D) (h:Th d) (gi:Nat) (x4 x5 x6 x7 x8 x9:Int): ∀(j i:Nat),gi<i->i+j=d.l.length->L 9006 [(gi:Int),enc d,(d.l.length:Int),(i:Int),x4,x5,x6,x7,x8,x9]=some [5,(gi:Int),enc d,x4,x5,x6,x7,x8,x9]
 |0,i,hg,hi=>by simp_all [bL,Zl,Wa,zz,fin]
 |j+1,i,hg,hi=>by
  have Y:=h.l7;have dX:i<d.l.length:=J
  have c1:(i:Int)<(d.l.length:Int):=J
  have c2: ¬((i:Int)<0):=J
  have c0: ¬((i:Int)=(gi:Int)):=J
  have w:=bS (n:=i) J;have ih:=HQ d h gi x4 x5 x6 x7 x8 x9 j (i+1) J J;obtain⟨o,c,dn,g,r,v,he,_,_,_,_,hr,hv⟩:=h.wd.mN _ (az dX);have hs:=eS h.sh dX;rw [he] at hs;rw [bL,Zl];rcases cF hr with rfl|rfl|⟨r1,r2⟩ <;>rcases cF hv with rfl|rfl|⟨v1,v2⟩
  all_goals
   simp only [Wa,zz,c0,c1,c2,w,bX dX,he,fm,bJ,aF,aK,FO,FN,hs,iN,jv,qe,jr]
   try simp only [r1,r2,zz]
   try simp only [v1,v2,zz]
   try simp only [fin]
   exact ih
theorem HO (d:D) (h:Th d) (gi:Nat) (x4 x5 x6 x7 x8 x9:Int): ∀(j i:Nat),gi<i->i+j=d.l.length->L 9007 [(gi:Int),enc d,(d.l.length:Int),(i:Int),x4,x5,x6,x7,x8,x9]=some [6,(gi:Int),enc d,x4,x5,x6,x7,x8,x9]
 |0,i,hg,hi=>by simp_all [bL,Zk,V9,zz,fin]
 |j+1,i,hg,hi=>by
  have Y:=h.l7;have dX:i<d.l.length:=J
  have c1:(i:Int)<(d.l.length:Int):=J
  have c2: ¬((i:Int)<0):=J
  have c0: ¬((i:Int)=(gi:Int)):=J
  have w:=bS (n:=i) J;have ih:=HO d h gi x4 x5 x6 x7 x8 x9 j (i+1) J J;obtain⟨o,c,dn,g,r,v,he,_,_,_,_,hr,hv⟩:=h.wd.mN _ (az dX);have hs:=eS h.sh dX;rw [he] at hs;rw [bL,Zk];rcases cF hr with rfl|rfl|⟨r1,r2⟩ <;>rcases cF hv with rfl|rfl|⟨v1,v2⟩
  all_goals
   simp only [V9,zz,c0,c1,c2,w,bX dX,he,fm,bJ,aF,aK,FO,FN,hs,iN,jv,qe,jr]
   try simp only [r1,r2,zz]
   try simp only [v1,v2,zz]
   try simp only [fin]
   exact ih
def lG (r v:D):Int:=if 0<r.l.length then (if 0<v.l.length then 3 else 4) else (if 0<v.l.length then 5 else 6)
theorem adF (d:D) (h:Th d) (gi:Nat) (w8:gi<d.l.length) (o c dn g:Int) (r v:D) (yh:d.l[gi]=dL [.i o,.i c,.i dn,.i g,r,v]): ∀(j i:Nat),i<=gi->i+j=gi->
 L 9001 [(gi:Int),enc d,(d.l.length:Int),(i:Int)]=some [lG r v,(gi:Int),enc d,o,c,dn,g,enc r,enc v]
 |0,i,hg,hi=>by
  obtain rfl:i=gi:=J
  have Y:=h.l7;have c1:(i:Int)<(d.l.length:Int):=J
  have c2: ¬((i:Int)<0):=J
  have w:=bS (n:=i) J;obtain⟨o',c',Kl,g',r',v',he,_,_,_,_,hr,hv⟩:=h.wd.mN _ (az w8);rw [yh] at he;have he:=Fc he;simp only [List.cons.injEq,D.i.injEq,and_true] at he;obtain⟨rfl,rfl,rfl,rfl,rfl,rfl⟩:=he;have b4:=fun a b=>HS d h i o c dn g a b (d.l.length-(i+1)) (i+1) J J;have b5:=fun a b=>HR d h i o c dn g a b (d.l.length-(i+1)) (i+1) J J;have b6:=fun a b=>HQ d h i o c dn g a b (d.l.length-(i+1)) (i+1) J J;have b7:=fun a b=>HO d h i o c dn g a b (d.l.length-(i+1)) (i+1) J J;rw [bL,Ml];rcases cF hr with rfl|rfl|⟨r1,r2⟩
  ·rcases cF hv with rfl|rfl|⟨v1,v2⟩
   ·simp only [rD,zz,c1,c2,w,bX w8,yh,fm,bJ,aF,aK,iN,qe,fin,b7]
    grind [lG,D.l]
   ·simp only [rD,zz,c1,c2,w,bX w8,yh,fm,bJ,aF,aK,iN,qe,jv,jr,fin,b7]
    grind [lG,D.l]
   ·simp only [rD,zz,c1,c2,w,bX w8,yh,fm,bJ,aF,aK,iN,qe,v1,v2,fin,b6]
    grind [lG,D.l]
  ·rcases cF hv with rfl|rfl|⟨v1,v2⟩
   ·simp only [rD,zz,c1,c2,w,bX w8,yh,fm,bJ,aF,aK,jv,qe,jr,iN,fin,b7]
    grind [lG,D.l]
   ·simp only [rD,zz,c1,c2,w,bX w8,yh,fm,bJ,aF,aK,jv,qe,jr,fin,b7]
    grind [lG,D.l]
   ·simp only [rD,zz,c1,c2,w,bX w8,yh,fm,bJ,aF,aK,jv,qe,jr,v1,v2,fin,b6]
    grind [lG,D.l]
  ·rcases cF hv with rfl|rfl|⟨v1,v2⟩
   ·simp only [rD,zz,c1,c2,w,bX w8,yh,fm,bJ,aF,aK,r1,r2,iN,qe,fin,b5]
    grind [lG,D.l]
   ·simp only [rD,zz,c1,c2,w,bX w8,yh,fm,bJ,aF,aK,r1,r2,jv,qe,jr,fin,b5]
    grind [lG,D.l]
   ·simp only [rD,zz,c1,c2,w,bX w8,yh,fm,bJ,aF,aK,r1,r2,v1,v2,fin,b4]
    grind [lG]
 |j+1,i,hg,hi=>by
  have Y:=h.l7;have dX:i<d.l.length:=J
  have c1:(i:Int)<(d.l.length:Int):=J
  have c2: ¬((i:Int)<0):=J
  have c0: ¬((i:Int)=(gi:Int)):=J
  have w:=bS (n:=i) J;have ih:=adF d h gi w8 o c dn g r v yh j (i+1) J J;clear yh;obtain⟨o2,F?,dn2,g2,r2',v2',he,_,_,_,_,hr,hv⟩:=h.wd.mN _ (az dX);have hs:=eS h.sh dX;rw [he] at hs;rw [bL,Ml];rcases cF hr with rfl|rfl|⟨r1,r2⟩ <;>rcases cF hv with rfl|rfl|⟨v1,v2⟩
  all_goals
   simp only [rD,zz,c0,c1,c2,w,bX dX,he,fm,bJ,aF,aK,FO,FN,hs,iN,jv,qe,jr]
   try simp only [r1,r2,zz]
   try simp only [v1,v2,zz]
   try simp only [fin]
   exact ih
theorem adE (d:D) (h:Th d) (gi:Nat) (w8:gi<d.l.length) (o c dn g:Int) (r v:D) (yh:d.l[gi]=dL [.i o,.i c,.i dn,.i g,r,v]) :
 L 9000 [(gi:Int),enc d]=some [lG r v,(gi:Int),enc d,o,c,dn,g,enc r,enc v]:=by
 have Y:=h.l7;have c1:(0:Int)<(d.l.length:Int):=J
 have c2:(d.l.length:Int)<1759218604441:=J
 rw [bL,Zo];simp only [KC,zz,c1,c2,fin];exact adF d h gi w8 o c dn g r v yh gi 0 J J
theorem Fg (d:D) (h:Th d) (x:Int) (hx:x<0\/(d.l.length:Int)<=x): ∀(j i:Nat),i+j=d.l.length->L 9001 [x,enc d,(d.l.length:Int),(i:Int)]=some [0,x,enc d]
 |0,i,hi=>by simp_all [bL,Ml,rD,zz,fin]
 |j+1,i,hi=>by
  have Y:=h.l7;have dX:i<d.l.length:=J
  have c1:(i:Int)<(d.l.length:Int):=J
  have c2: ¬((i:Int)<0):=J
  have c0: ¬((i:Int)=x):=J
  have w:=bS (n:=i) J;have ih:=Fg d h x hx j (i+1) J;obtain⟨o,c,dn,g,r,v,he,_,_,_,_,hr,hv⟩:=h.wd.mN _ (az dX);have hs:=eS h.sh dX;rw [he] at hs;rw [bL,Ml];rcases cF hr with rfl|rfl|⟨r1,r2⟩ <;>rcases cF hv with rfl|rfl|⟨v1,v2⟩
  all_goals
   simp only [rD,zz,c0,c1,c2,w,bX dX,he,fm,bJ,aF,aK,FO,FN,hs,iN,jv,qe,jr]
   try simp only [r1,r2,zz]
   try simp only [v1,v2,zz]
   try simp only [fin]
   exact ih
theorem akC (d:D) (h:Wd (.sl 7) d) (x:Int) (hx:x<0\/(d.l.length:Int)<=x):dC 9000 [x,enc d] (fun ys=>ys= [0,x,enc d]\/(ys= [1,x]/\d= .i 1)\/(ys= [2,x]/\d= .i 2)):=by
 refine dC.of ?_;rw [Zo];rcases h.sh with rfl|rfl|⟨U,Z⟩
 ·simp only [KC,zz,iN,qe];refine .jump (dC.of ?_);rw [acU];simp only [abG,zz];exact .ite (fun _=> .out (.inr (.inl rfl))) fun _=> .out (.inr (.inl rfl))
 ·simp only [KC,zz,jv,qe,jr];refine .jump (dC.of ?_);rw [acT];simp only [abF,zz];exact .ite (fun _=> .out (.inr (.inr rfl))) fun _=> .out (.inr (.inr rfl))
 ·have hp:=am3.2 Z;have ht:=wS h hp;have Y:=ht.l7;have c1:(0:Int)<(d.l.length:Int):=J
  have c2:(d.l.length:Int)<1759218604441:=J
  simp only [KC,zz,c1,c2];exact .jump ⟨_,Fg d ht x hx d.l.length 0 J,.inl rfl⟩
def S_ (d x:D) (m:Nat):List Int:=[(d.hd 0).n,enc (d.hd 1),(d.hd 2).n,enc (d.hd 3),(d.hd 4).n,(x.hd 0).n,(x.hd 1).n,(if (x.hd 2).n=0 then 0 else 1),(x.hd 3).n,enc (x.hd 4),enc (x.hd 5),(m:Int)]
def Snd (d x:D) (m:Nat):Prop:=L 500 (S_ d x m)=some [1]
theorem R? (d x:D) (m:Nat) (h:(x.hd 4).l.length<=140737488351232): ∃c,L 500 (S_ d x m)=some [c]/\(c=0\/c=1):=by obtain⟨ys,U,c,rfl,hc⟩:=NI (d.hd 0).n (enc (d.hd 1)) (d.hd 2).n (enc (d.hd 3)) (d.hd 4).n (x.hd 0).n (x.hd 1).n (if (x.hd 2).n=0 then 0 else 1) (x.hd 3).n (m:Int) (x.hd 4) (x.hd 5) h;exact⟨c,U,hc⟩
theorem bG:((1:Int)=0)=False:=ad
def AG (s:D):Prop:= ∀x∈s.l,(x.hd 4).l.length<=140737488351232
section
variable {d0 d1 s:D} (hr:AG s) (hle:s.l.length=d0.l.length) (hlen:d0.l.length<=140737488351232)
include hr hle hlen
theorem DD: ∀(j i:Nat),i+j=s.l.length->∃b:Int,L 351 [enc s,(s.l.length:Int),(i:Int),enc d0,enc d1]=some [b]/\(b=0\/b=1)/\
 (b=1↔∀(k:Nat) (hk:k<s.l.length),i<=k->Snd (d0.l[k]'(hle▸hk)) s.l[k] d1.l.length)
 |0,i,hi=>by
  have c1: ¬(i:Int)<(s.l.length:Int):=J
  refine⟨1,?_,.inr rfl,fun _ k hk h=>absurd hk J,fun _=>rfl⟩;rw [bL,aaQ];simp only [Tf,zz,c1,fin]
 |j+1,i,hi=>by
  have dX:i<s.l.length:=J
  have hid:i<d0.l.length:=J
  have c1:(i:Int)<(s.l.length:Int):=J
  have c2: ¬((i:Int)<0):=J
  have c3:(i:Int)<(d0.l.length:Int):=J
  have w:=bS (n:=i) J;obtain⟨c,hS,hc⟩:=R? d0.l[i] s.l[i] d1.l.length (hr _ (az dX));obtain⟨b,RM,LM,ih⟩:=DD j (i+1) J;have hS':=hS;unfold S_ at hS;by_cases hc0:c=0
  ·subst hc0;refine⟨0,?_,.inl rfl,fun h=>absurd h J,fun h=>?_⟩
   ·rw [bL,aaQ];by_cases hn:((s.l[i]).hd 2).n=0
    ·rw [ag hn] at hS;simp only [Tf,zz,c1,c2,c3,w,bX dX,bX hid,hn,hS,fin]
    ·rw [af hn] at hS;simp only [Tf,zz,c1,c2,c3,w,bX dX,bX hid,hn,hS,fin]
   ·have:=h i dX (au i);unfold Snd at this
    grind
  ·have hc1:c=1:=J
   subst hc1;refine⟨b,?_,LM,fun h k hk hik=>?_,fun h=>ih.2 fun k hk hik=>h k hk J⟩
   ·rw [bL,aaQ];by_cases hn:((s.l[i]).hd 2).n=0
    ·rw [ag hn] at hS;simp only [Tf,zz,c1,c2,c3,w,bX dX,bX hid,hn,hS,fin,bG,RM]
    ·rw [af hn] at hS;simp only [Tf,zz,c1,c2,c3,w,bX dX,bX hid,hn,hS,fin,bG,RM]
   ·by_cases hke:k=i
    ·subst hke;exact hS'
    grind
end
theorem lN {d0 d1 s:D} (h0:Wd (.sl 3) d0) (U:Wd (.sl 4) d1) (hr:AG s): ∃b:Int,L 350 [enc d0,enc d1,enc s]=some [b]/\(b=0\/b=1)/\
 (b=1↔L 450 [enc d0,enc d1]=some [0]/\∃hle:s.l.length=d0.l.length,∀(k:Nat) (hk:k<s.l.length),Snd (d0.l[k]'(hle▸hk)) s.l[k] d1.l.length):=by
 obtain⟨ys,hC,c,rfl,hc,oM⟩:=wD h0 U;by_cases hc0:c=0
 ·subst hc0;by_cases Y:s.l.length=d0.l.length
  ·have hlen:=h0.len;obtain⟨b,RM,LM,hb3⟩:=DD (d1:=d1) hr Y hlen s.l.length 0 J;refine⟨b,?_,LM,fun h=> ⟨hC,Y,fun k hk=>hb3.1 h k hk J⟩,fun⟨_,_,h⟩=>hb3.2 fun k hk _=>h k hk⟩;have FR:(s.l.length:Int)=(d0.l.length:Int):=J
   rw [bL,aaR,Q',eI,ag,eI,ag,eI,ag,mu]
   ·simp only [List.map,cW,gN,iS,bU,Nat.reduceLT,bM,bN,bB,fin]
    grind
   ·simp only [gF,lA,cW,fH,fX,gN,List.map,iS,bU,Nat.reduceLT,bM,bN,bB]
    grind
   ·simp only [gF,lA,cW,fH,fX,gN,List.map,iS,bU,Nat.reduceLT,bM,bN,bB];rw [hC];simp only [bM,bN,bq,aC,if_true]
   ·simp only [gF,lA,cW,fH,fX,gN,List.map,iS,bU,Nat.reduceLT,bM,bN,bB]
    grind
  ·refine⟨0,?_,.inl rfl,fun h=>absurd h J,fun⟨_,h,_⟩=>absurd h Y⟩;have FR: ¬(s.l.length:Int)=(d0.l.length:Int):=J
   rw [bL,aaR,Q',eI,ag,eI,ag,eI,af]
   ·simp only [iT,List.map,cW,fin]
   ·simp only [gF,lA,cW,fH,fX,gN,List.map,iS,bU,Nat.reduceLT,bM,bN,bB]
    grind
   ·simp only [gF,lA,cW,fH,fX,gN,List.map,iS,bU,Nat.reduceLT,bM,bN,bB];rw [hC];simp only [bM,bN,bq,aC,if_true]
   ·simp only [gF,lA,cW,fH,fX,gN,List.map,iS,bU,Nat.reduceLT,bM,bN,bB]
    grind
 ·refine⟨0,?_,.inl rfl,fun h=>absurd h J,fun⟨h,_⟩=>?_⟩
  ·rw [bL,aaR,Q',eI,ag,eI,af]
   ·simp only [iT,List.map,cW,fin]
   ·simp only [gF,lA,cW,fH,fX,gN,List.map,iS,bU,Nat.reduceLT,bM,bN,bB];rw [hC];simp only [bM,bN,bq,aC,if_true]
    grind
   ·simp only [gF,lA,cW,fH,fX,gN,List.map,iS,bU,Nat.reduceLT,bM,bN,bB]
    grind
  grind
def OkT (d0:D) (nl nc:Nat) (a:Int) (ll:Nat) (w o g t:Int):Prop:=
 0<=a/\a<=(nc:Int)/\(ll:Int)=(nl:Int)/\0<=t/\t<=4611686018427387904/\
  (w=0/\o=0/\g=0\/w=24/\0<=o/\o<(d0.l.length:Int)/\((d0.at o).hd 0).n=4\/w=25/\0<=o/\o<(d0.l.length:Int)/\((d0.at o).hd 0).n=5)
def Ki (p:Prop) (ys:List Int):Prop:= ∃b:Int,ys= [b]/\(b=0/\¬p\/b=1/\p)
theorem tO {p:Prop} (h: ¬p):Ki p [0]:=⟨0,rfl,.inl ⟨rfl,h⟩⟩
theorem Ha {p:Prop} (h:p):Ki p [1]:=⟨1,rfl,.inr ⟨rfl,h⟩⟩
theorem O' (d0 d3 d4 d6:D) (x1 x2 x5 x7 x8 x9 S7:Int):dC 1600 [enc d0,x1,x2,enc d3,enc d4,x5,enc d6,x7,x8,x9,S7] (Ki (OkT d0 d3.l.length d4.l.length x5 d6.l.length x7 x8 x9 S7)):=by
 unfold OkT;refine dC.of ?_;rw [adp];simp only [ab1,zz]
 repeat' first
  |exact .out (tO J)
  |exact .out (Ha J)
  |refine .ite (fun _=>?_) (fun _=>?_)
def OkK (d0 x k:D):Prop:=OkT d0 (x.hd 1).l.length (x.hd 2).l.length (k.hd 0).n (k.hd 1).l.length (k.hd 2).n (k.hd 3).n (k.hd 4).n (k.hd 5).n
section
variable {d0 d1 k:D} (hle:k.l.length=d1.l.length) (hlen:d1.l.length<=140737488351232)
include hle hlen
theorem BH: ∀(j i:Nat),i+j=k.l.length->dC 1501 [enc k,(k.l.length:Int),(i:Int),enc d0,enc d1] (Ki (∀(n:Nat) (hn:n<k.l.length),i<=n->OkK d0 (d1.l[n]'(hle▸hn)) k.l[n]))
 |0,i,hi=>by
  have c1: ¬(i:Int)<(k.l.length:Int):=J
  refine dC.of ?_;rw [ZJ];simp only [Wr,zz,c1];exact .out (Ha fun n hn h=>by omega)
 |j+1,i,hi=>by
  have dX:i<k.l.length:=J
  have hid:i<d1.l.length:=J
  have c1:(i:Int)<(k.l.length:Int):=J
  have c2: ¬((i:Int)<0):=J
  have c3:(i:Int)<(d1.l.length:Int):=J
  have w:=bS (n:=i) J;obtain⟨ys,hT,b,rfl,hb⟩:=O' d0 ((d1.l[i]).hd 1) ((d1.l[i]).hd 2) ((k.l[i]).hd 1) (enc d1) (enc ((d1.l[i]).hd 0)) ((k.l[i]).hd 0).n ((k.l[i]).hd 2).n ((k.l[i]).hd 3).n ((k.l[i]).hd 4).n ((k.l[i]).hd 5).n;obtain⟨ys,ih,b',rfl,Ci⟩:=BH j (i+1) J;refine dC.of ?_;rw [ZJ];simp only [Wr,zz,c1,c2,c3,bX dX,bX hid,w,hT];refine .ite (fun h0=> .out (tO fun h=>?_)) (fun h0=> .jump ⟨_,ih,b',rfl,?_⟩)
  ·rcases hb with ⟨_,hb⟩|⟨hb,_⟩
   ·exact hb (h i dX (au _))
   ·omega
  ·rcases hb with ⟨hb,_⟩|⟨_,hb⟩
   ·grind
   ·rcases Ci with ⟨q,Ci⟩|⟨q,Ci⟩
    ·grind
    ·refine .inr ⟨q,fun n hn hni=>?_⟩;by_cases he:n=i
     ·subst he; exact hb
     grind
end
def MR (d0 d1 s k:D):Prop:=L 350 [enc d0,enc d1,enc s]=some [1]/\∃hle:k.l.length=d1.l.length,∀(n:Nat) (hn:n<k.l.length),OkK d0 (d1.l[n]'(hle▸hn)) k.l[n]
theorem rP {d0 d1 s k:D} (h0:Wd (.sl 3) d0) (U:Wd (.sl 4) d1) (hr:AG s) (hlen:d1.l.length<=140737488351232):dC 1500 [enc d0,enc d1,enc s,enc k] (Ki (MR d0 d1 s k)):=by
 obtain⟨b,hb,RM,_⟩:=lN h0 U hr;refine dC.of ?_;rw [adr];simp only [ab3,zz,hb];refine .ite (fun h=> .out (tO fun q=>?_)) (fun h=> .ite (fun Y=>?_) (fun Y=> .out (tO fun q=>?_)))
 ·have:=q.1
  grind
 ·have hle:k.l.length=d1.l.length:=J
  obtain⟨ys,hL,b',rfl,Ci⟩:=BH (d0:=d0) hle hlen k.l.length 0 J;refine .jump ⟨_,hL,b',rfl,?_⟩;have ug:b=1:=J
  subst ug;rcases Ci with ⟨q,Ci⟩|⟨q,Ci⟩
  ·exact .inl ⟨q,fun h=>Ci fun n hn _=>h.2.2 n hn⟩
  ·exact .inr ⟨q,hb,hle,fun n hn=>Ci n hn (am5 _)⟩
 ·have:=q.2.1;omega
theorem DE {d0 d1 s k:D} (h0:Wd (.sl 3) d0) (U:Wd (.sl 4) d1) (hr:AG s) (hlen:d1.l.length<=140737488351232) (t:Int):dC 1550 [enc d0,enc d1,enc s,enc k,t] (Ki (0<=t/\t<(d1.l.length:Int)/\MR d0 d1 s k)):=by
 obtain⟨ys,hM,b,rfl,hb⟩:=rP h0 U hr hlen (k:=k);refine dC.of ?_;rw [adq];simp only [ab2,zz,hM];refine .ite (fun h=> .out (tO fun q=>by omega)) (fun h=> .ite (fun Z=> .ite (fun h3=> .out (tO fun q=>?_)) (fun h3=> .out (Ha ?_))) (fun Z=> .out (tO fun q=>by omega)))
 all_goals grind
def kP (t:Int):List D->Nat->Int
 |[],_=> -1
 |x::l,i=>if x.n=t then (i:Int) else kP t l (i+1)
def place (r:D) (t:Int):Int:=kP t r.l 0
def wo (t:Int) (l:List D):List D:=l.filter fun x=>decide (x.n≠t)
theorem xf (t:Int): ∀(l:List D) (i:Nat),(kP t l i= -1/\∀x∈l,x.n≠t)\/∃(k:Nat) (h:k<l.length),kP t l i=((i+k:Nat):Int)/\(l[k]).n=t/\∀x∈l.take k,x.n≠t
 |[],_=> .inl ⟨rfl,fun x h=>absurd h ad⟩
 |x::l,i=>by
  unfold kP;by_cases hx:x.n=t
  ·grind
  ·rw [af hx];rcases xf t l (i+1) with ⟨U,Z⟩|⟨k,hk,U,Z,h3⟩
   ·grind
   ·refine .inr ⟨k+1,by simp; omega,by rw [U]; congr 1; omega,by simpa using Z,fun y hy=>?_⟩
    grind
theorem lW (r:D) (t:Int):(place r t= -1/\∀x∈r.l,x.n≠t)\/∃(k:Nat) (h:k<r.l.length),place r t=(k:Int)/\(r.l[k]).n=t/\∀x∈r.l.take k,x.n≠t:=by have:=xf t r.l 0;simp only [aA] at this;exact this
theorem gv (r:D) (t:Int): -1<=place r t/\place r t<(r.l.length:Int):=by
 grind [lW]
theorem sq {t:Int} {l:List D} (h: ∀x∈l,x.n≠t):wo t l=l:=List.filter_eq_self.2 fun x hx=>by simpa using h x hx
theorem tg {r:D} {t:Int} {i:Nat} (h:i<r.l.length):kP t (r.l.drop i) i=if (r.at (i:Int)).n=t then (i:Int) else kP t (r.l.drop (i+1)) (i+1):=by rw [bh h,bX h];rfl
theorem Yk (r:D) (t:Int) (Y:r.l.length<=140737488351232): ∀(j i:Nat),i+j=r.l.length->L 851 [enc r,t,(r.l.length:Int),(i:Int)]=some [kP t (r.l.drop i) i]
 |0,i,hi=>by simp_all [bL,af1,P!,zz,fin,kP]
 |j+1,i,hi=>by
  have c1:(i:Int)<(r.l.length:Int):=J
  have c2: ¬((i:Int)<0):=J
  have w:=bS (n:=i) J;have ih:=Yk r t Y j (i+1) J;rw [tg J,bL,af1];by_cases he:(r.at (i:Int)).n=t
  ·simp only [P!,zz,c1,c2,he,fin]
  ·have yh: ¬t=(r.at (i:Int)).n:=fun h=>he h.symm;simp only [P!,zz,c1,c2,af he,af yh,w,fin,ih]
theorem dO (r:D) (t:Int) (Y:r.l.length<=140737488351232):L 850 [enc r,t]=some [place r t]:=by have h:=Yk r t Y r.l.length 0 J;rw [bL,aj5];simp only [ahL,zz,fin];exact h
theorem dJ (r:D) (t:Int) (Y:r.l.length<=140737488351232):L 900 [enc r,t]=some [if place r t<0 then 0 else 1]:=by rw [bL,aj4];simp only [ahK,zz,dO r t Y];split<;>rfl
theorem zc (r:D) (t:Int) (Y:r.l.length<=140737488351232) (y2 y3 y4 y5 y6 y7 y8 y9 mi mh mg:Int): ∀(j i:Nat),i+j=r.l.length->
 L 12051 [enc r,t,y2,y3,y4,y5,y6,y7,y8,y9,mi,mh,mg,(r.l.length:Int),(i:Int)]=some [0,enc r,t,y2,y3,y4,y5,y6,y7,y8,y9,mi,mh,mg,kP t (r.l.drop i) i]
 |0,i,hi=>by simp_all [bL,Pg,Ip,zz,fin,kP]
 |j+1,i,hi=>by
  have c1:(i:Int)<(r.l.length:Int):=J
  have c2: ¬((i:Int)<0):=J
  have w:=bS (n:=i) J;have ih:=zc r t Y y2 y3 y4 y5 y6 y7 y8 y9 mi mh mg j (i+1) J;rw [tg J,bL,Pg];by_cases he:(r.at (i:Int)).n=t
  ·simp only [Ip,zz,c1,c2,he,fin]
  ·simp only [Ip,zz,c1,c2,af he,w,fin,ih]
theorem aap (r:D) (t:Int) (Y:r.l.length<=140737488351232) (y2 y3 y4 y5 y6 y7 y8 y9 mi mh mg:Int):L 12050 [enc r,t,y2,y3,y4,y5,y6,y7,y8,y9,mi,mh,mg]=some [0,enc r,t,y2,y3,y4,y5,y6,y7,y8,y9,mi,mh,mg,place r t]:=by have h:=zc r t Y y2 y3 y4 y5 y6 y7 y8 y9 mi mh mg r.l.length 0 J;rw [bL,d?];simp only [WS,zz,fin];exact h
theorem za (r:D) (t:Int) (Y:r.l.length<=140737488351232) (y2 y3 y4 y5 y6 y7 y8 y9 mi mh mg:Int): ∀(j i:Nat),i+j=r.l.length->
 L 12151 [enc r,t,y2,y3,y4,y5,y6,y7,y8,y9,mi,mh,mg,(r.l.length:Int),(i:Int)]=some [0,enc r,t,y2,y3,y4,y5,y6,y7,y8,y9,mi,mh,mg,kP t (r.l.drop i) i]
 |0,i,hi=>by simp_all [bL,Pe,Im,zz,fin,kP]
 |j+1,i,hi=>by
  have c1:(i:Int)<(r.l.length:Int):=J
  have c2: ¬((i:Int)<0):=J
  have w:=bS (n:=i) J;have ih:=za r t Y y2 y3 y4 y5 y6 y7 y8 y9 mi mh mg j (i+1) J;rw [tg J,bL,Pe];by_cases he:(r.at (i:Int)).n=t
  ·simp only [Im,zz,c1,c2,he,fin]
  ·simp only [Im,zz,c1,c2,af he,w,fin,ih]
theorem aao (r:D) (t:Int) (Y:r.l.length<=140737488351232) (y2 y3 y4 y5 y6 y7 y8 y9 mi mh mg:Int):L 12150 [enc r,t,y2,y3,y4,y5,y6,y7,y8,y9,mi,mh,mg]=some [0,enc r,t,y2,y3,y4,y5,y6,y7,y8,y9,mi,mh,mg,place r t]:=by have h:=za r t Y y2 y3 y4 y5 y6 y7 y8 y9 mi mh mg r.l.length 0 J;rw [bL,d!];simp only [WR,zz,fin];exact h
theorem vH {t:Int} {l:List D} {j:Nat} (h:j<l.length):wo t (l.take (j+1))=if (l[j]).n=t then wo t (l.take j) else wo t (l.take j)++ [l[j]]:=by
 unfold wo;rw [an5 h,aoL]
 grind
theorem VG (t:Int) (l:List D):(wo t l).length<=l.length:=aoK _ _
theorem tv (r0:D) (t:Int) (l0:List D) (Y:l0.length<=140737488351232) (hn: ∀x∈l0,x= .i x.n) (y2 y3 y4 y5 y6 y7 y8 y9 mi mh mg:Int): ∀(m i j:Nat) (r:D),r.l.length=l0.length->i<j->j+m=l0.length->r.l.drop j=l0.drop j->r.l.take i=wo t (l0.take j)->
 ∃(n:Nat) (r':D),n<l0.length/\r'.l.length=l0.length/\r'.l.take n=wo t l0/\L 12001 [enc r0,t,y2,y3,y4,y5,y6,y7,y8,y9,mi,mh,mg,enc r,(i:Int),(j:Int)]=some [1,enc r0,t,y2,y3,y4,y5,y6,y7,y8,y9,mi,mh,mg,(n:Int),enc r',(l0.length:Int)]
 |0,i,j,r,hr,U,Z,h3,h4=>by
  have c1: ¬(j:Int)<(l0.length:Int):=J
  have c2: ¬((i:Int)<0):=J
  have c3: ¬((l0.length:Int)<(i:Int)):=J
  have c4: ¬((l0.length:Int)-(i:Int)<0):=J
  have c5:(i:Int)+((l0.length:Int)-(i:Int))=(l0.length:Int):=J
  refine⟨i,dL (r.l.take i++List.replicate (r.l.length-i) (.i 0)),J,by rw [bJ]; simp only [aT,a8,ani]; omega,?_,?_⟩
  ·grind [bJ]
  ·rw [bL,JR];simp only [Iq,zz,c1,c2,c3,c4,c5,bd,fin,hr]
 |m+1,i,j,r,hr,U,Z,h3,h4=>by
  have c1:(j:Int)<(l0.length:Int):=J
  have c2: ¬((j:Int)<0):=J
  have w:=bS (n:=j) J;have hj:j<r.l.length:=J
  have Kk:j<l0.length:=J
  have hx:r.at (j:Int)=l0[j]:=by
   rw [bX hj];rw [bh hj,bh Kk] at h3
   grind
  have h3':r.l.drop (j+1)=l0.drop (j+1):=by
   rw [bh hj,bh Kk] at h3
   grind
  by_cases he:(r.at (j:Int)).n=t
  ·obtain⟨n,r',q1,q2,q3,ih⟩:=tv r0 t l0 Y hn y2 y3 y4 y5 y6 y7 y8 y9 mi mh mg m i (j+1) r hr J J h3' (by rw [vH Kk,<- hx,ag he,h4]);refine⟨n,r',q1,q2,q3,?_⟩;rw [bL,JR];simp only [Iq,zz,c1,c2,he,w,hr,fin,ih]
  ·have c3: ¬((i:Int)<0):=J
   have c4:(i:Int)<(l0.length:Int):=J
   have w2:=bS (n:=i) J;have hs:fC r.l (i:Int) (.i (r.at (j:Int)).n)=r.l.set i l0[j]:=by rw [pe,hx,<- hn _ (az Kk)]
   obtain⟨n,r',q1,q2,q3,ih⟩:=tv r0 t l0 Y hn y2 y3 y4 y5 y6 y7 y8 y9 mi mh mg m (i+1) (j+1) (dL (fC r.l (i:Int) (.i (r.at (j:Int)).n))) (by rw [bJ,gu,hr]) J J
    (by rw [bJ,hs,aod J,h3'])
    (by rw [bJ,hs,an5 (by rw [anL]; omega),aoc (au _),aoM,h4,vH Kk,<- hx,af he])
   refine⟨n,r',q1,q2,q3,?_⟩;rw [bL,JR];simp only [Iq,zz,c1,c2,c3,c4,af he,w,w2,hr,fin,ih]
theorem aa3 (r:D) (t:Int) (Y:r.l.length<=140737488351232) (hn: ∀x∈r.l,x= .i x.n):(wo t r.l=r.l/\∀y2 y3 y4 y5 y6 y7 y8 y9 mi mh mg:Int,L 12000 [enc r,t,y2,y3,y4,y5,y6,y7,y8,y9,mi,mh,mg]=some [0,enc r,t,y2,y3,y4,y5,y6,y7,y8,y9,mi,mh,mg])\/
 ∀y2 y3 y4 y5 y6 y7 y8 y9 mi mh mg:Int,∃(n:Nat) (r':D),n<r.l.length/\r'.l.length=r.l.length/\r'.l.take n=wo t r.l/\L 12000 [enc r,t,y2,y3,y4,y5,y6,y7,y8,y9,mi,mh,mg]=some [1,enc r,t,y2,y3,y4,y5,y6,y7,y8,y9,mi,mh,mg,(n:Int),enc r',(r.l.length:Int)]:=by
 have h:=aap r t Y;rcases lW r t with ⟨hp,Aj⟩|⟨i,hi,hp,mQ,Aj⟩
 ·refine .inl ⟨sq Aj,fun y2 y3 y4 y5 y6 y7 y8 y9 mi mh mg=>?_⟩;have h':=h y2 y3 y4 y5 y6 y7 y8 y9 mi mh mg;clear h;rw [hp] at h';rw [bL,Ph,NC,eI,ag,eI,ag,eI,ag]
  ·simp only [iT,List.map,cW,bU,bM,bN,Nat.reduceLT,fin]
  ·simp only [Qm3,gF,cW,fH,fX,List.map,bU,Nat.reduceLT,bM,bN];rw [h'];simp only [bM,bN,bq,aC,if_true]
  ·simp only [gF,cW,fH,fX,List.map,bU,Nat.reduceLT,bM,bN];rw [h'];simp only [bM,bN,bq,aC,if_true]
  ·simp only [gF,cW,fH,fX,List.map,bU,Nat.reduceLT,bM,bN]
   grind
 ·refine .inr fun y2 y3 y4 y5 y6 y7 y8 y9 mi mh mg=>?_;have h':=h y2 y3 y4 y5 y6 y7 y8 y9 mi mh mg;clear h;rw [hp] at h';have w:=bS (n:=i) J;have h0:r.l.take i=wo t (r.l.take (i+1)):=by rw [vH hi,ag mQ,sq Aj]
  obtain⟨n,r',q1,q2,q3,ih⟩:=tv r t r.l Y hn y2 y3 y4 y5 y6 y7 y8 y9 mi mh mg (r.l.length-(i+1)) i (i+1) r rfl J J rfl h0;refine⟨n,r',q1,q2,q3,?_⟩;rw [bL,Ph,NC,eI,ag,eI,ag,eI,af]
  ·simp only [mu,List.map,Qm3,cW,fH,vu,den_add,bU,bM,bN,Nat.reduceLT];rw [h'];simp only [bM,bN,aC,w,fin];rw [ih]
  ·simp only [Qm3,gF,cW,fH,fX,List.map,bU,Nat.reduceLT,bM,bN];rw [h'];simp only [bM,bN,bq,aC,if_true];omega
  ·simp only [gF,cW,fH,fX,List.map,bU,Nat.reduceLT,bM,bN];rw [h'];simp only [bM,bN,bq,aC,if_true]
  ·simp only [gF,cW,fH,fX,List.map,bU,Nat.reduceLT,bM,bN];rw [h'];simp only [bM,bN,bq,aC,if_true]
theorem tu (r0:D) (t:Int) (l0:List D) (Y:l0.length<=140737488351232) (hn: ∀x∈l0,x= .i x.n) (y2 y3 y4 y5 y6 y7 y8 y9 mi mh mg:Int): ∀(m i j:Nat) (r:D),r.l.length=l0.length->i<j->j+m=l0.length->r.l.drop j=l0.drop j->r.l.take i=wo t (l0.take j)->
 ∃(n:Nat) (r':D),n<l0.length/\r'.l.length=l0.length/\r'.l.take n=wo t l0/\L 12101 [enc r0,t,y2,y3,y4,y5,y6,y7,y8,y9,mi,mh,mg,enc r,(i:Int),(j:Int)]=some [1,enc r0,t,y2,y3,y4,y5,y6,y7,y8,y9,mi,mh,mg,(n:Int),enc r',(l0.length:Int)]
 |0,i,j,r,hr,U,Z,h3,h4=>by
  have c1: ¬(j:Int)<(l0.length:Int):=J
  have c2: ¬((i:Int)<0):=J
  have c3: ¬((l0.length:Int)<(i:Int)):=J
  have c4: ¬((l0.length:Int)-(i:Int)<0):=J
  have c5:(i:Int)+((l0.length:Int)-(i:Int))=(l0.length:Int):=J
  refine⟨i,dL (r.l.take i++List.replicate (r.l.length-i) (.i 0)),J,by rw [bJ]; simp only [aT,a8,ani]; omega,?_,?_⟩
  ·grind [bJ]
  ·rw [bL,JQ];simp only [Io,zz,c1,c2,c3,c4,c5,bd,fin,hr]
 |m+1,i,j,r,hr,U,Z,h3,h4=>by
  have c1:(j:Int)<(l0.length:Int):=J
  have c2: ¬((j:Int)<0):=J
  have w:=bS (n:=j) J;have hj:j<r.l.length:=J
  have Kk:j<l0.length:=J
  have hx:r.at (j:Int)=l0[j]:=by
   rw [bX hj];rw [bh hj,bh Kk] at h3
   grind
  have h3':r.l.drop (j+1)=l0.drop (j+1):=by
   rw [bh hj,bh Kk] at h3
   grind
  by_cases he:(r.at (j:Int)).n=t
  ·obtain⟨n,r',q1,q2,q3,ih⟩:=tu r0 t l0 Y hn y2 y3 y4 y5 y6 y7 y8 y9 mi mh mg m i (j+1) r hr J J h3' (by rw [vH Kk,<- hx,ag he,h4]);refine⟨n,r',q1,q2,q3,?_⟩;rw [bL,JQ];simp only [Io,zz,c1,c2,he,w,hr,fin,ih]
  ·have c3: ¬((i:Int)<0):=J
   have c4:(i:Int)<(l0.length:Int):=J
   have w2:=bS (n:=i) J;have hs:fC r.l (i:Int) (.i (r.at (j:Int)).n)=r.l.set i l0[j]:=by rw [pe,hx,<- hn _ (az Kk)]
   obtain⟨n,r',q1,q2,q3,ih⟩:=tu r0 t l0 Y hn y2 y3 y4 y5 y6 y7 y8 y9 mi mh mg m (i+1) (j+1) (dL (fC r.l (i:Int) (.i (r.at (j:Int)).n))) (by rw [bJ,gu,hr]) J J
    (by rw [bJ,hs,aod J,h3'])
    (by rw [bJ,hs,an5 (by rw [anL]; omega),aoc (au _),aoM,h4,vH Kk,<- hx,af he])
   refine⟨n,r',q1,q2,q3,?_⟩;rw [bL,JQ];simp only [Io,zz,c1,c2,c3,c4,af he,w,w2,hr,fin,ih]
theorem aa2 (r:D) (t:Int) (Y:r.l.length<=140737488351232) (hn: ∀x∈r.l,x= .i x.n):(wo t r.l=r.l/\∀y2 y3 y4 y5 y6 y7 y8 y9 mi mh mg:Int,L 12100 [enc r,t,y2,y3,y4,y5,y6,y7,y8,y9,mi,mh,mg]=some [0,enc r,t,y2,y3,y4,y5,y6,y7,y8,y9,mi,mh,mg])\/
 ∀y2 y3 y4 y5 y6 y7 y8 y9 mi mh mg:Int,∃(n:Nat) (r':D),n<r.l.length/\r'.l.length=r.l.length/\r'.l.take n=wo t r.l/\L 12100 [enc r,t,y2,y3,y4,y5,y6,y7,y8,y9,mi,mh,mg]=some [1,enc r,t,y2,y3,y4,y5,y6,y7,y8,y9,mi,mh,mg,(n:Int),enc r',(r.l.length:Int)]:=by
 have h:=aao r t Y;rcases lW r t with ⟨hp,Aj⟩|⟨i,hi,hp,mQ,Aj⟩
 ·refine .inl ⟨sq Aj,fun y2 y3 y4 y5 y6 y7 y8 y9 mi mh mg=>?_⟩;have h':=h y2 y3 y4 y5 y6 y7 y8 y9 mi mh mg;clear h;rw [hp] at h';rw [bL,Pf,NB,eI,ag,eI,ag,eI,ag]
  ·simp only [iT,List.map,cW,bU,bM,bN,Nat.reduceLT,fin]
  ·simp only [Qnf,gF,cW,fH,fX,List.map,bU,Nat.reduceLT,bM,bN];rw [h'];simp only [bM,bN,bq,aC,if_true]
  ·simp only [gF,cW,fH,fX,List.map,bU,Nat.reduceLT,bM,bN];rw [h'];simp only [bM,bN,bq,aC,if_true]
  ·simp only [gF,cW,fH,fX,List.map,bU,Nat.reduceLT,bM,bN]
   grind
 ·refine .inr fun y2 y3 y4 y5 y6 y7 y8 y9 mi mh mg=>?_;have h':=h y2 y3 y4 y5 y6 y7 y8 y9 mi mh mg;clear h;rw [hp] at h';have w:=bS (n:=i) J;have h0:r.l.take i=wo t (r.l.take (i+1)):=by rw [vH hi,ag mQ,sq Aj]
  obtain⟨n,r',q1,q2,q3,ih⟩:=tu r t r.l Y hn y2 y3 y4 y5 y6 y7 y8 y9 mi mh mg (r.l.length-(i+1)) i (i+1) r rfl J J rfl h0;refine⟨n,r',q1,q2,q3,?_⟩;rw [bL,Pf,NB,eI,ag,eI,ag,eI,af]
  ·simp only [mu,List.map,Qnf,cW,fH,vu,den_add,bU,bM,bN,Nat.reduceLT];rw [h'];simp only [bM,bN,aC,w,fin];rw [ih]
  ·simp only [Qnf,gF,cW,fH,fX,List.map,bU,Nat.reduceLT,bM,bN];rw [h'];simp only [bM,bN,bq,aC,if_true];omega
  ·simp only [gF,cW,fH,fX,List.map,bU,Nat.reduceLT,bM,bN];rw [h'];simp only [bM,bN,bq,aC,if_true]
  ·simp only [gF,cW,fH,fX,List.map,bU,Nat.reduceLT,bM,bN];rw [h'];simp only [bM,bN,bq,aC,if_true]
theorem aa1 (r:D) (t:Int): ∀y2 y3 y4 y5 y6 y7 y8 y9 mi mh mg:Int,L 12200 [enc r,t,y2,y3,y4,y5,y6,y7,y8,y9,mi,mh,mg]=some [0,enc r,t,y2,y3,y4,y5,y6,y7,y8,y9,mi,mh,mg]:=by
 intro y2 y3 y4 y5 y6 y7 y8 y9 mi mh mg
 have h:L 12250 [enc r,t,y2,y3,y4,y5,y6,y7,y8,y9,mi,mh,mg]=some [0,enc r,t,y2,y3,y4,y5,y6,y7,y8,y9,mi,mh,mg]:=by rw [bL,c!];simp_all [WO,zz,fin,bL,c_,WN]
 have h':=h;clear h;rw [bL,d_,WQ,eI,ag,eI,ag]
 ·simp_all [iT,cW,bU,bM,bN,fin]
 ·simp only [gF,cW,fH,fX,List.map,bU,Nat.reduceLT,bM,bN]
  grind [bM,bN]
 ·simp only [gF,cW,fH,fX,List.map,bU,Nat.reduceLT,bM,bN]
  grind
theorem aa0 (r:D) (t:Int): ∀y2 y3 y4 y5 y6 y7 y8 y9 mi mh mg:Int,L 12300 [enc r,t,y2,y3,y4,y5,y6,y7,y8,y9,mi,mh,mg]=some [0,enc r,t,y2,y3,y4,y5,y6,y7,y8,y9,mi,mh,mg]:=by
 intro y2 y3 y4 y5 y6 y7 y8 y9 mi mh mg
 have h:L 12350 [enc r,t,y2,y3,y4,y5,y6,y7,y8,y9,mi,mh,mg]=some [0,enc r,t,y2,y3,y4,y5,y6,y7,y8,y9,mi,mh,mg]:=by rw [bL,b!];simp_all [WL,zz,fin,bL,b_,WK]
 have h':=h;clear h;rw [bL,b?,WM,eI,ag,eI,ag]
 ·simp_all [iT,cW,bU,bM,bN,fin]
 ·simp only [gF,cW,fH,fX,List.map,bU,Nat.reduceLT,bM,bN]
  grind [bM,bN]
 ·simp only [gF,cW,fH,fX,List.map,bU,Nat.reduceLT,bM,bN]
  grind
abbrev Mx (d0:D) (obj:Int):Int:=((d0.at obj).hd 2).n
abbrev Mo (d0 s:D) (obj:Int):Int:=((s.at ((d0.at obj).hd 2).n).hd 0).n
inductive Act where
 |jX
 |yc
 |res (o c dn g:Int) (r v:D) (m:Option Int) (a oc:Int)
def act (M mo th op arg tries o c dn g:Int) (r v:D):Act:=
 if op=1 then (if o=th then .yc else if place r th<0 then (if o<0 then .res th c dn g r v none 0 2 else .jX) else .yc)
 else if op=2 then (if o=th then .res (-1) c dn g r v none 0 2 else .yc)
 else if op=8 then (if o=th then .res (-1) c dn g r v none 0 2 else .yc)
 else if op=3 then (if o<0 then .res th c dn g r v none 1 2 else .res o c dn g r v none 0 2)
 else if op=4 then (if o<0 then .res th c dn g r v none 1 2 else if tries<arg then .jX else .res o c dn g r v none 0 2)
 else if op=5 then (if o=th then .yc else if place r th<0 then (if o<0 then .res o c dn g (dL (r.l++ [.i th])) v none 0 2 else .jX) else .yc)
 else if op=6 then (if place r th<0 then .yc else .res o c dn g (eY (.i 2) (r.l.take (place r th).toNat++r.l.drop ((place r th).toNat+1))) v none 0 2)
 else if op=7 then (if o=th then .yc else if place r th<0 then (if (r.l.length:Int)=0 then (if o<0 then .res th c dn g r v none 0 2 else .jX) else .jX) else .yc)
 else if op=9 then (if 0<c then .res o (IntKind.i64.wrap (c-1)) dn g r v none 0 2 else .jX)
 else if op=11 then (if 0<c then .res o (IntKind.i64.wrap (c-1)) dn g r v none 1 2 else .res o c dn g r v none 0 2)
 else if op=10 then (if c<M then .res o (IntKind.i64.wrap (c+1)) dn g r v none 0 2 else .yc)
 else if op=17 then (if arg<IntKind.i64.wrap (0-c) then .yc else if IntKind.i64.wrap (1099511627776-c)<arg then .yc else .res o (IntKind.i64.wrap (c+arg)) dn g r v none (IntKind.i64.wrap (c+arg)) 2)
 else if op=18 then (if 0<c then .res o (IntKind.i64.wrap (c-1)) dn g r v none (IntKind.i64.wrap (c-1)) 2 else .yc)
 else if op=19 then (if c=0 then .res o c dn g r v none 0 2 else .jX)
 else if op=22 then .res o c dn g r v none c 2
 else if op=23 then .res o arg dn g r v none arg 2
 else if op=20 then (if (v.l.length:Int)<M then .res o c dn g r (dL (v.l++ [.i arg])) none arg 2 else .jX)
 else if op=21 then (if (v.l.length:Int)=0 then .jX else .res o c dn g r (eY v (v.l.drop 1)) none (v.at 0).n 2)
 else if op=12 then (if mo=th then .res o c dn g (dL (wo th r.l++ [.i th])) v (some (-1)) 0 3 else .yc)
 else if op=13 then (if (r.l.length:Int)=0 then .res o c dn g r v none 0 2 else .res o c dn g (eY r (r.l.drop 1)) v none (IntKind.i64.wrap ((r.at 0).n+1)) 2)
 else if op=14 then .res o c dn g (.i 1) v none (r.l.length:Int) 2
 else if op=24 then (if place r th<0 then (if mo<0 then .res o c dn g r v (some th) 0 2 else .jX) else .jX)
 else if op=15 then (if g<4611686018427387904 then (if IntKind.i64.wrap (c+1)=M then .res o 0 dn (IntKind.i64.wrap (g+1)) r v none g 3 else .res o (IntKind.i64.wrap (c+1)) dn g r v none g 3) else .yc)
 else if op=25 then (if arg<g then .res o c dn g r v none arg 2 else .jX)
 else if op=16 then (if dn=0 then (if o=th then .yc else if o<0 then .res th c dn g r v none 1 2 else .jX) else .res o c dn g r v none 0 2)
 else (if o=th then .res (-1) c 1 g r v none 0 2 else .yc)
def NV (s:D) (obj M:Int):Act->D
 | .res o c dn g r v m _ _=>dL (fC (match m with |none=>s.l|some q=>fC s.l M (dL (fC (s.at M).l 0 (.i q)))) obj (dL [.i o,.i c,.i (if dn=0 then 0 else 1),.i g,r,v]))
 |_=>s
def DQ (s:D) (th op obj M:Int):Act->List Int
 | .jX=>[enc s,0,0,0,0,0,0]
 | .yc=>[enc s,th,27,obj,IntKind.i64.wrap op,0,2]
 | .res o c dn g r v m a oc=>[enc (NV s obj M (.res o c dn g r v m a oc)),th,op,obj,a,0,oc]
structure TH (d0 d1 s:D) (th op obj arg tries o c dn g:Int) (r v:D):Prop where
 fZ:L 9000 [obj,enc s]=some [lG r v,obj,enc s,o,c,dn,g,enc r,enc v]
 gI:L 550 [enc s]=some [enc s]
 hR:L 350 [enc d0,enc d1,enc s]=some [1]
 zi:0<=th
 zh:th<(d1.l.length:Int)
 u4:0<=obj
 uZ:obj<(s.l.length:Int)
 hlen:s.l.length=d0.l.length
 hk:L 600 [op]=some [((d0.at obj).hd 0).n]
 hr:(r.l.length:Int)<17592186044415
 hv:(v.l.length:Int)<17592186044415
 hn: ∀x∈r.l,x= .i x.n
 hM:op=12\/op=24->0<=((d0.at obj).hd 2).n/\((d0.at obj).hd 2).n<(s.l.length:Int)/\((d0.at obj).hd 2).n≠obj
theorem TH.hb {d0 d1 s:D} {th op obj arg tries o c dn g:Int} {r v:D} (H:TH d0 d1 s th op obj arg tries o c dn g r v):r.l.length<=140737488351232:=by have:=H.hr; omega
noncomputable abbrev dB (d0 d1 s:D) (th op obj arg tries:Int):Nat->Int:=cT L (low [enc d0,enc d1,enc s,th,op,obj,arg,tries])
abbrev ca (k:Nat):V:=rr 9000 [.dG 5,.dG 2] k
abbrev N8:V:=nm (ce 2 (el (.dG 0) (.dG 5)))
abbrev kK:V:=rr 850 [ca 7,.dG 3] 0
abbrev To (q:V):V:=.op .set (ca 2) (cn (mk N8) (.op .set (el (ca 2) N8) (cn (.ei (.i 0)) q)))
abbrev rA:List V:=[ca 7,.dG 3,.dG 5,N8,To (.ei (.i (-1))),.dG 4,.dG 6,.dG 7,ca 3,ca 4,ca 5,ca 6,ca 8]
abbrev thg (o c d g r v:V):V:=cn (mk (.dG 5)) (cn o (cn c (cn d (cn g (cn r (cn v (.ei (.i 0))))))))
abbrev qW:T Lf:=ou [rr 550 [.dG 2] 0,.dG 3,.lit 27,.dG 5,wr (.dG 4),.lit 0,.lit 2]
abbrev wH:T Lf:=ou [rr 550 [.dG 2] 0,.lit 0,.lit 0,.lit 0,.lit 0,.lit 0,.lit 0]
abbrev jq (z o c d g r v a:V) (oc:Int):T Lf:=ou [.op .set z (thg o c d g r v),.dG 3,.dG 4,.dG 5,a,.lit 0,.lit oc]
theorem vP {r:D} (h:r.l= []) (t:Int):place r t= -1:=by unfold place; rw [h]; rfl
theorem aew {r:D} (h:r.l= []) (t:Int):wo t r.l= []:=by rw [h]; rfl
theorem amg {r v:D} (h:0<r.l.length) (h':0<v.l.length):lG r v=3:=by simp [lG,h,h']
theorem amf {r v:D} (h:0<r.l.length) (h':v.l= []):lG r v=4:=by simp [lG,h,h']
theorem ame {r v:D} (h:r.l= []) (h':0<v.l.length):lG r v=5:=by simp [lG,h,h']
theorem amd {r v:D} (h:r.l= []) (h':v.l= []):lG r v=6:=by simp [lG,h,h']
abbrev Gl (d0 s:D) (th op obj arg tries o c dn g:Int) (r v:D):RS:=.out (DQ s th op obj (Mx d0 obj) (act (Mx d0 obj) (Mo d0 s obj) th op arg tries o c dn g r v))
theorem dv (s:D) (th op obj M:Int):DQ s th op obj M .jX= [enc s,0,0,0,0,0,0]:=rfl
theorem du (s:D) (th op obj M:Int):DQ s th op obj M .yc= [enc s,th,27,obj,IntKind.i64.wrap op,0,2]:=rfl
theorem cQ (s:D) (th op obj M o c dn g:Int) (r v:D) (a oc:Int):DQ s th op obj M (.res o c dn g r v none a oc)= [enc (dL (fC s.l obj (dL [.i o,.i c,.i (if dn=0 then 0 else 1),.i g,r,v]))),th,op,obj,a,0,oc]:=rfl
theorem cP (s:D) (th op obj M o c dn g:Int) (r v:D) (q a oc:Int):DQ s th op obj M (.res o c dn g r v (some q) a oc)= [enc (dL (fC (fC s.l M (dL (fC (s.at M).l 0 (.i q)))) obj (dL [.i o,.i c,.i (if dn=0 then 0 else 1),.i g,r,v]))),th,op,obj,a,0,oc]:=rfl
section
variable {s:D} {th op obj M:Int}
theorem eT {c:Prop} [Decidable c] {a b:Act}:RS.out (DQ s th op obj M (if c then a else b))=if c then RS.out (DQ s th op obj M a) else RS.out (DQ s th op obj M b):=by split<;>rfl
end
theorem uq {p:Prop} [Decidable p]:((if p then (0:Int) else 1)=0)=p:=by by_cases h:p<;>simp [h]
theorem iV (l:List D):l= []\/0<l.length:=by cases l<;>simp
theorem z2 {ρ:Nat->Int} {a b c d:List SB} (h:zY ρ a/\zW ρ b) (h':zY ρ c/\zW ρ d):zY ρ (a++c)/\zW ρ (b++d):=⟨Vz h.1 h'.1,VC h.2 h'.2⟩
abbrev bt:V:=.op .bit (mk (ca 5)) (.lit 0)
abbrev kW:V:=wr (.add kK (.lit 1))
abbrev kL:V:=.sub (ln (ca 7)) kW
abbrev kD:V:=.add kK kL
abbrev kC:V:=.op .cat (.op .cat (.op .take (ca 7) kK) (.op .drop (.op .take (ca 7) (.add kW kL)) kW)) (.op .drop (ca 7) kD)
abbrev kF:V:=.op .fill kC (cn (mk kD) (.ei (.i 0)))
section
variable {d0 d1 s r v:D} {th op obj arg tries o c dn g:Int}
abbrev YG:List SB:=[.eq (a0 9000 [.dG 5,.dG 2]) (.lit 1),.eq (a0 350 [.dG 0,.dG 1,.dG 2]) (.lit 1),.eq (a0 600 [.dG 4]) (.lit 1),.eq (a0 550 [.dG 2]) (.lit 1),.eq (a0 900 [ca 7,.dG 3]) (.lit 1),.eq (a0 850 [ca 7,.dG 3]) (.lit 1),.lt (.dG 3) (ln (.dG 1)),.lt (.dG 5) (ln (.dG 0)),.lt (.dG 5) (ln (ca 2)),.eq (rr 600 [.dG 4] 0) (nm (ce 0 (el (.dG 0) (.dG 5)))),.lt (ln (ca 7)) (.lit 17592186044415),.lt (ln (ca 8)) (.lit 17592186044415)]
abbrev NG:List SB:=[.lt (.dG 5) (.lit 0),.eq (rr 350 [.dG 0,.dG 1,.dG 2] 0) (.lit 0),.lt (.dG 3) (.lit 0),.lt (ln (ca 7)) (ln (ca 7)),.lt (ln (ca 8)) (.add (.lit 1) (.sub (ln (ca 8)) (.lit 1))),.lt (ln (ca 7)) (.add (.lit 1) (.sub (ln (ca 7)) (.lit 1)))]
theorem fG (H:TH d0 d1 s th op obj arg tries o c dn g r v):zY (dB d0 d1 s th op obj arg tries) YG/\zW (dB d0 d1 s th op obj arg tries) NG:=by have hb:=H.hb;have U:=H.zi; have Z:=H.zh; have h3:=H.u4; have h4:=H.uZ; have h5:=H.hlen; have h6:=H.hr; have h7:=H.hv; have hp:=gv r th;simp only [zz,H.fZ,H.gI,H.hR,H.hk,dJ r th hb,dO r th hb]<;>omega
abbrev YA3:List SB:=[.eq (ca 0) (.lit 3)]
abbrev NA3:List SB:=[.eq (ca 0) (.lit 0),.eq (ca 0) (.lit 1),.eq (ca 0) (.lit 2),.eq (ca 0) (.lit 4),.eq (ca 0) (.lit 5),.eq (ca 0) (.lit 6),.lt (.sub (ln (ca 7)) (.lit 1)) (.lit 0),.lt (.sub (ln (ca 8)) (.lit 1)) (.lit 0)]
theorem fA3 (H:TH d0 d1 s th op obj arg tries o c dn g r v) (hr:0<r.l.length) (hv:0<v.l.length):zY (dB d0 d1 s th op obj arg tries) YA3/\zW (dB d0 d1 s th op obj arg tries) NA3:=by have hb:=H.hb;have U:=H.zi; have Z:=H.zh; have h3:=H.u4; have h4:=H.uZ; have h5:=H.hlen; have h6:=H.hr; have h7:=H.hv; have hp:=gv r th;simp only [zz,H.fZ,H.gI,H.hR,H.hk,dJ r th hb,dO r th hb,amg hr hv]<;>omega
abbrev YA4:List SB:=[.eq (ca 0) (.lit 4)]
abbrev NA4:List SB:=[.eq (ca 0) (.lit 0),.eq (ca 0) (.lit 1),.eq (ca 0) (.lit 2),.eq (ca 0) (.lit 3),.eq (ca 0) (.lit 5),.eq (ca 0) (.lit 6),.lt (.sub (ln (ca 7)) (.lit 1)) (.lit 0)]
theorem fA4 (H:TH d0 d1 s th op obj arg tries o c dn g r v) (hr:0<r.l.length) (hv:v.l= []):zY (dB d0 d1 s th op obj arg tries) YA4/\zW (dB d0 d1 s th op obj arg tries) NA4:=by have hb:=H.hb;have U:=H.zi; have Z:=H.zh; have h3:=H.u4; have h4:=H.uZ; have h5:=H.hlen; have h6:=H.hr; have h7:=H.hv; have hp:=gv r th;simp only [zz,H.fZ,H.gI,H.hR,H.hk,dJ r th hb,dO r th hb,amf hr hv]<;>omega
abbrev YA5:List SB:=[.eq (ca 0) (.lit 5),.lt kK (.lit 0)]
abbrev NA5:List SB:=[.eq (ca 0) (.lit 0),.eq (ca 0) (.lit 1),.eq (ca 0) (.lit 2),.eq (ca 0) (.lit 3),.eq (ca 0) (.lit 4),.eq (ca 0) (.lit 6),.lt (.sub (ln (ca 8)) (.lit 1)) (.lit 0)]
theorem fA5 (H:TH d0 d1 s th op obj arg tries o c dn g r v) (hr:r.l= []) (hv:0<v.l.length):zY (dB d0 d1 s th op obj arg tries) YA5/\zW (dB d0 d1 s th op obj arg tries) NA5:=by have hb:=H.hb;have U:=H.zi; have Z:=H.zh; have h3:=H.u4; have h4:=H.uZ; have h5:=H.hlen; have h6:=H.hr; have h7:=H.hv; have hp:=gv r th;simp only [zz,H.fZ,H.gI,H.hR,H.hk,dJ r th hb,dO r th hb,ame hr hv,vP hr]<;>omega
abbrev YA6:List SB:=[.eq (ca 0) (.lit 6),.lt kK (.lit 0)]
abbrev NA6:List SB:=[.eq (ca 0) (.lit 0),.eq (ca 0) (.lit 1),.eq (ca 0) (.lit 2),.eq (ca 0) (.lit 3),.eq (ca 0) (.lit 4),.eq (ca 0) (.lit 5)]
theorem fA6 (H:TH d0 d1 s th op obj arg tries o c dn g r v) (hr:r.l= []) (hv:v.l= []):zY (dB d0 d1 s th op obj arg tries) YA6/\zW (dB d0 d1 s th op obj arg tries) NA6:=by have hb:=H.hb;have U:=H.zi; have Z:=H.zh; have h3:=H.u4; have h4:=H.uZ; have h5:=H.hlen; have h6:=H.hr; have h7:=H.hv; have hp:=gv r th;simp only [zz,H.fZ,H.gI,H.hR,H.hk,dJ r th hb,dO r th hb,amd hr hv,vP hr]<;>omega
abbrev YM:List SB:=[.lt N8 (ln (ca 2))]
abbrev NM:List SB:=[.lt N8 (.lit 0),.eq N8 (.dG 5)]
theorem fM (H:TH d0 d1 s th op obj arg tries o c dn g r v) (ho:op=12\/op=24):zY (dB d0 d1 s th op obj arg tries) YM/\zW (dB d0 d1 s th op obj arg tries) NM:=by have hb:=H.hb;have U:=H.zi; have Z:=H.zh; have h3:=H.u4; have h4:=H.uZ; have h5:=H.hlen; have h6:=H.hr; have h7:=H.hv; have hp:=gv r th; have hm:=H.hM ho;simp only [zz,H.fZ,H.gI,H.hR,H.hk,dJ r th hb,dO r th hb]<;>omega
abbrev YK0:List SB:=[.lt kK (.lit 0)]
abbrev NK0:List SB:=[]
theorem fK0 (H:TH d0 d1 s th op obj arg tries o c dn g r v) (hk:place r th<0):zY (dB d0 d1 s th op obj arg tries) YK0/\zW (dB d0 d1 s th op obj arg tries) NK0:=by have hb:=H.hb;have U:=H.zi; have Z:=H.zh; have h3:=H.u4; have h4:=H.uZ; have h5:=H.hlen; have h6:=H.hr; have h7:=H.hv; have hp:=gv r th;simp only [zz,H.fZ,H.gI,H.hR,H.hk,dJ r th hb,dO r th hb]<;>omega
abbrev YK1:List SB:=[.lt kD (ln (ca 7)),.eq (.add kD (.sub (ln (ca 7)) kD)) (ln kC)]
abbrev NK1:List SB:=[.lt kK (.lit 0),.lt kW kK,.lt (ln (ca 7)) kW,.eq kK kW,.lt (ln (ca 7)) kK,.lt kW (.lit 0),.lt kL (.lit 0),.lt (ln (ca 7)) (.add kW kL),.lt (ln (ca 7)) kD,.lt kD (.lit 0),.lt (ln kC) (ln (ca 7)),.lt (.sub (ln (ca 7)) kD) (.lit 0),.lt (ln kF) kD]
theorem fK1 (H:TH d0 d1 s th op obj arg tries o c dn g r v) (hk: ¬place r th<0):zY (dB d0 d1 s th op obj arg tries) YK1/\zW (dB d0 d1 s th op obj arg tries) NK1:=by have hb:=H.hb;have U:=H.zi; have Z:=H.zh; have h3:=H.u4; have h4:=H.uZ; have h5:=H.hlen; have h6:=H.hr; have h7:=H.hv; have hp:=gv r th; have hw:IntKind.i64.wrap (place r th+1)=place r th+1:=mj J J;simp only [zz,H.fZ,H.gI,H.hR,H.hk,dJ r th hb,dO r th hb,gw,bJ,aT,a8,amU,ani,hw]<;>omega
abbrev dA (d0 s r v:D) (th op obj arg tries o c dn g:Int):List Int:=[enc r,th,obj,Mx d0 obj,enc (dL (fC s.l (Mx d0 obj) (dL (fC (s.at (Mx d0 obj)).l 0 (.i (-1)))))),op,arg,tries,o,c,dn,g,enc v]
abbrev aml:List SB:=[.eq (a0 12000 rA) (.lit 1),.eq (rr 12000 rA 0) (.lit 0)]
abbrev ams:List SB:=[]
theorem al6 (H:TH d0 d1 s th op obj arg tries o c dn g r v) (hd:L 12000 (dA d0 s r v th op obj arg tries o c dn g)=some (0::(dA d0 s r v th op obj arg tries o c dn g))):zY (dB d0 d1 s th op obj arg tries) aml/\zW (dB d0 d1 s th op obj arg tries) ams:=by have hb:=H.hb;have U:=H.zi; have Z:=H.zh; have h3:=H.u4; have h4:=H.uZ; have h5:=H.hlen; have h6:=H.hr; have h7:=H.hv; have hp:=gv r th;simp only [zz,H.fZ,H.gI,H.hR,H.hk,dJ r th hb,dO r th hb,hd]<;>omega
abbrev amm:List SB:=[.eq (a0 12000 rA) (.lit 1),.eq (rr 12000 rA 0) (.lit 1)]
abbrev amt:List SB:=[.eq (rr 12000 rA 0) (.lit 0),.lt (rr 12000 rA 14) (.lit 0),.lt (ln (rr 12000 rA 15)) (.add (rr 12000 rA 14) (.lit 1)),.lt (.add (rr 12000 rA 14) (.lit 1)) (.lit 0),.lt (ln (.op .cat (.op .cat (.op .take (rr 12000 rA 15) (rr 12000 rA 14)) (.op .snoc (.ei (.i 0)) (mk (.dG 3)))) (.op .drop (rr 12000 rA 15) (.add (rr 12000 rA 14) (.lit 1))))) (.add (rr 12000 rA 14) (.lit 1))]
theorem al7 (H:TH d0 d1 s th op obj arg tries o c dn g r v) {n:Nat} {r1:D} (hn:n<r.l.length) (Y:r1.l.length=r.l.length) (hd:L 12000 (dA d0 s r v th op obj arg tries o c dn g)=some (1::((dA d0 s r v th op obj arg tries o c dn g)++ [(n:Int),enc r1,(r.l.length:Int)]))):zY (dB d0 d1 s th op obj arg tries) amm/\zW (dB d0 d1 s th op obj arg tries) amt:=by have hb:=H.hb;have U:=H.zi; have Z:=H.zh; have h3:=H.u4; have h4:=H.uZ; have h5:=H.hlen; have h6:=H.hr; have h7:=H.hv; have hp:=gv r th;simp only [zz,H.fZ,H.gI,H.hR,H.hk,dJ r th hb,dO r th hb,hd,gw,bJ,mI,aR,ay,aT,a8,amU,aM,bg]<;>omega
abbrev amj:List SB:=[.eq (a0 12100 rA) (.lit 1),.eq (rr 12100 rA 0) (.lit 0)]
abbrev amq:List SB:=[]
theorem al4 (H:TH d0 d1 s th op obj arg tries o c dn g r v) (hd:L 12100 (dA d0 s r v th op obj arg tries o c dn g)=some (0::(dA d0 s r v th op obj arg tries o c dn g))):zY (dB d0 d1 s th op obj arg tries) amj/\zW (dB d0 d1 s th op obj arg tries) amq:=by have hb:=H.hb;have U:=H.zi; have Z:=H.zh; have h3:=H.u4; have h4:=H.uZ; have h5:=H.hlen; have h6:=H.hr; have h7:=H.hv; have hp:=gv r th;simp only [zz,H.fZ,H.gI,H.hR,H.hk,dJ r th hb,dO r th hb,hd]<;>omega
abbrev amk:List SB:=[.eq (a0 12100 rA) (.lit 1),.eq (rr 12100 rA 0) (.lit 1)]
abbrev amr:List SB:=[.eq (rr 12100 rA 0) (.lit 0),.lt (rr 12100 rA 14) (.lit 0),.lt (ln (rr 12100 rA 15)) (.add (rr 12100 rA 14) (.lit 1)),.lt (.add (rr 12100 rA 14) (.lit 1)) (.lit 0),.lt (ln (.op .cat (.op .cat (.op .take (rr 12100 rA 15) (rr 12100 rA 14)) (.op .snoc (.ei (.i 0)) (mk (.dG 3)))) (.op .drop (rr 12100 rA 15) (.add (rr 12100 rA 14) (.lit 1))))) (.add (rr 12100 rA 14) (.lit 1))]
theorem al5 (H:TH d0 d1 s th op obj arg tries o c dn g r v) {n:Nat} {r1:D} (hn:n<r.l.length) (Y:r1.l.length=r.l.length) (hd:L 12100 (dA d0 s r v th op obj arg tries o c dn g)=some (1::((dA d0 s r v th op obj arg tries o c dn g)++ [(n:Int),enc r1,(r.l.length:Int)]))):zY (dB d0 d1 s th op obj arg tries) amk/\zW (dB d0 d1 s th op obj arg tries) amr:=by have hb:=H.hb;have U:=H.zi; have Z:=H.zh; have h3:=H.u4; have h4:=H.uZ; have h5:=H.hlen; have h6:=H.hr; have h7:=H.hv; have hp:=gv r th;simp only [zz,H.fZ,H.gI,H.hR,H.hk,dJ r th hb,dO r th hb,hd,gw,bJ,mI,aR,ay,aT,a8,amU,aM,bg]<;>omega
abbrev ami:List SB:=[.eq (a0 12200 rA) (.lit 1),.eq (rr 12200 rA 0) (.lit 0)]
abbrev amp:List SB:=[]
theorem al3 (H:TH d0 d1 s th op obj arg tries o c dn g r v) (hd:L 12200 (dA d0 s r v th op obj arg tries o c dn g)=some (0::(dA d0 s r v th op obj arg tries o c dn g))):zY (dB d0 d1 s th op obj arg tries) ami/\zW (dB d0 d1 s th op obj arg tries) amp:=by have hb:=H.hb;have U:=H.zi; have Z:=H.zh; have h3:=H.u4; have h4:=H.uZ; have h5:=H.hlen; have h6:=H.hr; have h7:=H.hv; have hp:=gv r th;simp only [zz,H.fZ,H.gI,H.hR,H.hk,dJ r th hb,dO r th hb,hd]<;>omega
abbrev amh:List SB:=[.eq (a0 12300 rA) (.lit 1),.eq (rr 12300 rA 0) (.lit 0)]
abbrev amo:List SB:=[]
theorem al0 (H:TH d0 d1 s th op obj arg tries o c dn g r v) (hd:L 12300 (dA d0 s r v th op obj arg tries o c dn g)=some (0::(dA d0 s r v th op obj arg tries o c dn g))):zY (dB d0 d1 s th op obj arg tries) amh/\zW (dB d0 d1 s th op obj arg tries) amo:=by have hb:=H.hb;have U:=H.zi; have Z:=H.zh; have h3:=H.u4; have h4:=H.uZ; have h5:=H.hlen; have h6:=H.hr; have h7:=H.hv; have hp:=gv r th;simp only [zz,H.fZ,H.gI,H.hR,H.hk,dJ r th hb,dO r th hb,hd]<;>omega
end
theorem Fa (l m:List D):eY (dL l) m=eY (.i 2) m:=by
 cases m with
 |cons a m=>rfl
 |nil=>cases l<;>rfl
theorem PW (d:D) (h:0<d.l.length):eY (eY d (d.l.take (1+((d.l.length:Int)-1)).toNat)) ((eY d (d.l.take (1+((d.l.length:Int)-1)).toNat)).l.drop (1:Int).toNat)=eY d (d.l.drop 1):=by rw [xV (fun e=>by rw [e]; rfl),gw,anN J];rfl
theorem agp (l:List D) (k:Nat) (hk:k<l.length) (R B:List D):((l.take k++(l.take l.length).drop (k+1)++B).take (l.length-1)++R).take (l.length-1)=l.take k++l.drop (k+1)\/B.length=0:=by
 grind
section
variable {d0 d1 s r v:D} {th op obj arg tries o c dn g:Int}
abbrev zt0:T Lf:=(sp (.eq (ca 3) (.dG 3)) qW (sp (.eq (rr 900 [ca 7,.dG 3] 0) (.lit 0)) (sp (.lt (ca 3) (.lit 0)) (jq (ca 2) (mk (.dG 3)) (mk (ca 4)) bt (mk (ca 6)) (ca 7) (ca 8) (.lit 0) 2) wH) qW))
theorem sm0 (H:TH d0 d1 s th 1 obj arg tries o c dn g r v):ew (dB d0 d1 s th 1 obj arg tries) zt0=Gl d0 s th 1 obj arg tries o c dn g r v:=by
 have hb:=H.hb;simp only [zz,H.fZ,H.gI,H.hR,H.hk,dJ r th hb,dO r th hb,bG,uq,eT,dv,du,cQ,cP,dL,act,Int.reduceEq,Gl]<;>(repeat' split)<;>first |rfl|(exfalso; omega)
abbrev zt1:T Lf:=(sp (.eq (ca 3) (.dG 3)) (jq (ca 2) (.ei (.i (-1))) (mk (ca 4)) bt (mk (ca 6)) (ca 7) (ca 8) (.lit 0) 2) qW)
theorem sm1 (H:TH d0 d1 s th 2 obj arg tries o c dn g r v):ew (dB d0 d1 s th 2 obj arg tries) zt1=Gl d0 s th 2 obj arg tries o c dn g r v:=by
 have hb:=H.hb;simp only [zz,H.fZ,H.gI,H.hR,H.hk,dJ r th hb,dO r th hb,bG,uq,eT,dv,du,cQ,cP,dL,act,Int.reduceEq,Gl]<;>(repeat' split)<;>first |rfl|(exfalso; omega)
theorem sm2 (H:TH d0 d1 s th 8 obj arg tries o c dn g r v):ew (dB d0 d1 s th 8 obj arg tries) zt1=Gl d0 s th 8 obj arg tries o c dn g r v:=by
 have hb:=H.hb;simp only [zz,H.fZ,H.gI,H.hR,H.hk,dJ r th hb,dO r th hb,bG,uq,eT,dv,du,cQ,cP,dL,act,Int.reduceEq,Gl]<;>(repeat' split)<;>first |rfl|(exfalso; omega)
abbrev zt2:T Lf:=(sp (.lt (ca 3) (.lit 0)) (jq (ca 2) (mk (.dG 3)) (mk (ca 4)) bt (mk (ca 6)) (ca 7) (ca 8) (.lit 1) 2) (jq (ca 2) (mk (ca 3)) (mk (ca 4)) bt (mk (ca 6)) (ca 7) (ca 8) (.lit 0) 2))
theorem sm3 (H:TH d0 d1 s th 3 obj arg tries o c dn g r v):ew (dB d0 d1 s th 3 obj arg tries) zt2=Gl d0 s th 3 obj arg tries o c dn g r v:=by
 have hb:=H.hb;simp only [zz,H.fZ,H.gI,H.hR,H.hk,dJ r th hb,dO r th hb,bG,uq,eT,dv,du,cQ,cP,dL,act,Int.reduceEq,Gl]<;>(repeat' split)<;>first |rfl|(exfalso; omega)
abbrev zt3:T Lf:=(sp (.lt (ca 3) (.lit 0)) (jq (ca 2) (mk (.dG 3)) (mk (ca 4)) bt (mk (ca 6)) (ca 7) (ca 8) (.lit 1) 2) (sp (.lt (.dG 7) (.dG 6)) wH (jq (ca 2) (mk (ca 3)) (mk (ca 4)) bt (mk (ca 6)) (ca 7) (ca 8) (.lit 0) 2)))
theorem sm4 (H:TH d0 d1 s th 4 obj arg tries o c dn g r v):ew (dB d0 d1 s th 4 obj arg tries) zt3=Gl d0 s th 4 obj arg tries o c dn g r v:=by
 have hb:=H.hb;simp only [zz,H.fZ,H.gI,H.hR,H.hk,dJ r th hb,dO r th hb,bG,uq,eT,dv,du,cQ,cP,dL,act,Int.reduceEq,Gl]<;>(repeat' split)<;>first |rfl|(exfalso; omega)
abbrev zt4:T Lf:=(sp (.eq (ca 3) (.dG 3)) qW (sp (.eq (rr 900 [ca 7,.dG 3] 0) (.lit 0)) (sp (.lt (ca 3) (.lit 0)) (jq (ca 2) (mk (ca 3)) (mk (ca 4)) bt (mk (ca 6)) (.op .snoc (ca 7) (mk (.dG 3))) (ca 8) (.lit 0) 2) wH) qW))
theorem sm5 (H:TH d0 d1 s th 5 obj arg tries o c dn g r v) (hr:0<r.l.length):ew (dB d0 d1 s th 5 obj arg tries) zt4=Gl d0 s th 5 obj arg tries o c dn g r v:=by
 have hb:=H.hb;simp only [zz,H.fZ,H.gI,H.hR,H.hk,dJ r th hb,dO r th hb,mI,ay,bG,uq,eT,dv,du,cQ,cP,dL,act,Int.reduceEq,Gl]<;>(repeat' split)<;>first |rfl|(exfalso; omega)
abbrev zt5:T Lf:=qW
theorem sm6 (H:TH d0 d1 s th 6 obj arg tries o c dn g r v) (hk:place r th<0):ew (dB d0 d1 s th 6 obj arg tries) zt5=Gl d0 s th 6 obj arg tries o c dn g r v:=by
 have hb:=H.hb;simp only [zz,H.fZ,H.gI,H.hR,H.hk,dJ r th hb,dO r th hb,hk,bG,uq,eT,dv,du,cQ,cP,dL,act,Int.reduceEq,Gl]<;>(repeat' split)<;>first |rfl|(exfalso; omega)
abbrev zt6:T Lf:=(jq (ca 2) (mk (ca 3)) (mk (ca 4)) bt (mk (ca 6)) (.op .take kF kD) (ca 8) (.lit 0) 2)
theorem sm7 (H:TH d0 d1 s th 6 obj arg tries o c dn g r v) (hr:0<r.l.length) (hk: ¬place r th<0):ew (dB d0 d1 s th 6 obj arg tries) zt6=Gl d0 s th 6 obj arg tries o c dn g r v:=by
 have hb:=H.hb;rcases lW r th with ⟨hp,_⟩|⟨k,Ja,hp,_⟩
 ·grind
 have hw:IntKind.i64.wrap ((k:Int)+1)=(k:Int)+1:=mj J J;have e1:((k:Int)+1+((r.l.length:Int)-((k:Int)+1))).toNat=r.l.length:=J
 have e2:((k:Int)+((r.l.length:Int)-((k:Int)+1))).toNat=r.l.length-1:=J
 have e3:((k:Int)+1).toNat=k+1:=J
 have h0: ¬((k:Int)<0):=J
 have hd:=fun R=>(agp r.l k Ja R (r.l.drop (r.l.length-1))).resolve_right (by rw [amU]; omega);simp only [zz,H.fZ,H.gI,H.hR,H.hk,dJ r th hb,dO r th hb,hp,hw,e1,e2,e3,h0,gw,bJ,bd,hd,Fa,bG,uq,eT,dv,du,cQ,cP,dL,act,Int.reduceEq,Gl]<;>(repeat' split)<;>first |rfl|(exfalso; omega)
abbrev zt7:T Lf:=(sp (.eq (ca 3) (.dG 3)) qW (sp (.eq (rr 900 [ca 7,.dG 3] 0) (.lit 0)) (sp (.eq (ln (ca 7)) (.lit 0)) (sp (.lt (ca 3) (.lit 0)) (jq (ca 2) (mk (.dG 3)) (mk (ca 4)) bt (mk (ca 6)) (ca 7) (ca 8) (.lit 0) 2) wH) wH) qW))
theorem sm8 (H:TH d0 d1 s th 7 obj arg tries o c dn g r v) (hr:0<r.l.length):ew (dB d0 d1 s th 7 obj arg tries) zt7=Gl d0 s th 7 obj arg tries o c dn g r v:=by
 have hb:=H.hb;simp only [zz,H.fZ,H.gI,H.hR,H.hk,dJ r th hb,dO r th hb,bG,uq,eT,dv,du,cQ,cP,dL,act,Int.reduceEq,Gl]<;>(repeat' split)<;>first |rfl|(exfalso; omega)
abbrev zt8:T Lf:=(sp (.lt (.lit 0) (ca 4)) (jq (ca 2) (mk (ca 3)) (mk (wr (.sub (ca 4) (.lit 1)))) bt (mk (ca 6)) (ca 7) (ca 8) (.lit 0) 2) wH)
theorem sm9 (H:TH d0 d1 s th 9 obj arg tries o c dn g r v):ew (dB d0 d1 s th 9 obj arg tries) zt8=Gl d0 s th 9 obj arg tries o c dn g r v:=by
 have hb:=H.hb;simp only [zz,H.fZ,H.gI,H.hR,H.hk,dJ r th hb,dO r th hb,bG,uq,eT,dv,du,cQ,cP,dL,act,Int.reduceEq,Gl]<;>(repeat' split)<;>first |rfl|(exfalso; omega)
abbrev zt9:T Lf:=(sp (.lt (.lit 0) (ca 4)) (jq (ca 2) (mk (ca 3)) (mk (wr (.sub (ca 4) (.lit 1)))) bt (mk (ca 6)) (ca 7) (ca 8) (.lit 1) 2) (jq (ca 2) (mk (ca 3)) (mk (ca 4)) bt (mk (ca 6)) (ca 7) (ca 8) (.lit 0) 2))
theorem ala (H:TH d0 d1 s th 11 obj arg tries o c dn g r v):ew (dB d0 d1 s th 11 obj arg tries) zt9=Gl d0 s th 11 obj arg tries o c dn g r v:=by
 have hb:=H.hb;simp only [zz,H.fZ,H.gI,H.hR,H.hk,dJ r th hb,dO r th hb,bG,uq,eT,dv,du,cQ,cP,dL,act,Int.reduceEq,Gl]<;>(repeat' split)<;>first |rfl|(exfalso; omega)
abbrev agT:T Lf:=(sp (.lt (ca 4) N8) (jq (ca 2) (mk (ca 3)) (mk (wr (.add (ca 4) (.lit 1)))) bt (mk (ca 6)) (ca 7) (ca 8) (.lit 0) 2) qW)
theorem ak9 (H:TH d0 d1 s th 10 obj arg tries o c dn g r v):ew (dB d0 d1 s th 10 obj arg tries) agT=Gl d0 s th 10 obj arg tries o c dn g r v:=by
 have hb:=H.hb;simp only [zz,H.fZ,H.gI,H.hR,H.hk,dJ r th hb,dO r th hb,bG,uq,eT,dv,du,cQ,cP,dL,act,Int.reduceEq,Gl]<;>(repeat' split)<;>first |rfl|(exfalso; omega)
abbrev agS:T Lf:=(sp (.lt (.dG 6) (wr (.sub (.lit 0) (ca 4)))) qW (sp (.lt (wr (.sub (.lit 1099511627776) (ca 4))) (.dG 6)) qW (jq (ca 2) (mk (ca 3)) (mk (wr (.add (ca 4) (.dG 6)))) bt (mk (ca 6)) (ca 7) (ca 8) (wr (.add (ca 4) (.dG 6))) 2)))
theorem ak8 (H:TH d0 d1 s th 17 obj arg tries o c dn g r v):ew (dB d0 d1 s th 17 obj arg tries) agS=Gl d0 s th 17 obj arg tries o c dn g r v:=by
 have hb:=H.hb;simp only [zz,H.fZ,H.gI,H.hR,H.hk,dJ r th hb,dO r th hb,bG,uq,eT,dv,du,cQ,cP,dL,act,Int.reduceEq,Gl]<;>(repeat' split)<;>first |rfl|(exfalso; omega)
abbrev agR:T Lf:=(sp (.lt (.lit 0) (ca 4)) (jq (ca 2) (mk (ca 3)) (mk (wr (.sub (ca 4) (.lit 1)))) bt (mk (ca 6)) (ca 7) (ca 8) (wr (.sub (ca 4) (.lit 1))) 2) qW)
theorem ak7 (H:TH d0 d1 s th 18 obj arg tries o c dn g r v):ew (dB d0 d1 s th 18 obj arg tries) agR=Gl d0 s th 18 obj arg tries o c dn g r v:=by
 have hb:=H.hb;simp only [zz,H.fZ,H.gI,H.hR,H.hk,dJ r th hb,dO r th hb,bG,uq,eT,dv,du,cQ,cP,dL,act,Int.reduceEq,Gl]<;>(repeat' split)<;>first |rfl|(exfalso; omega)
abbrev agQ:T Lf:=(sp (.eq (ca 4) (.lit 0)) (jq (ca 2) (mk (ca 3)) (mk (ca 4)) bt (mk (ca 6)) (ca 7) (ca 8) (.lit 0) 2) wH)
theorem ak6 (H:TH d0 d1 s th 19 obj arg tries o c dn g r v):ew (dB d0 d1 s th 19 obj arg tries) agQ=Gl d0 s th 19 obj arg tries o c dn g r v:=by
 have hb:=H.hb;simp only [zz,H.fZ,H.gI,H.hR,H.hk,dJ r th hb,dO r th hb,bG,uq,eT,dv,du,cQ,cP,dL,act,Int.reduceEq,Gl]<;>(repeat' split)<;>first |rfl|(exfalso; omega)
abbrev agP:T Lf:=(jq (ca 2) (mk (ca 3)) (mk (ca 4)) bt (mk (ca 6)) (ca 7) (ca 8) (ca 4) 2)
theorem ak5 (H:TH d0 d1 s th 22 obj arg tries o c dn g r v):ew (dB d0 d1 s th 22 obj arg tries) agP=Gl d0 s th 22 obj arg tries o c dn g r v:=by
 have hb:=H.hb;simp only [zz,H.fZ,H.gI,H.hR,H.hk,dJ r th hb,dO r th hb,bG,uq,eT,dv,du,cQ,cP,dL,act,Int.reduceEq,Gl]<;>(repeat' split)<;>first |rfl|(exfalso; omega)
abbrev agO:T Lf:=(jq (ca 2) (mk (ca 3)) (mk (.dG 6)) bt (mk (ca 6)) (ca 7) (ca 8) (.dG 6) 2)
theorem ak4 (H:TH d0 d1 s th 23 obj arg tries o c dn g r v):ew (dB d0 d1 s th 23 obj arg tries) agO=Gl d0 s th 23 obj arg tries o c dn g r v:=by
 have hb:=H.hb;simp only [zz,H.fZ,H.gI,H.hR,H.hk,dJ r th hb,dO r th hb,bG,uq,eT,dv,du,cQ,cP,dL,act,Int.reduceEq,Gl]<;>(repeat' split)<;>first |rfl|(exfalso; omega)
abbrev ad3:T Lf:=(sp (.lt (ln (ca 8)) N8) (jq (ca 2) (mk (ca 3)) (mk (ca 4)) bt (mk (ca 6)) (ca 7) (.op .snoc (ca 8) (mk (.dG 6))) (.dG 6) 2) wH)
theorem aiu (H:TH d0 d1 s th 20 obj arg tries o c dn g r v) (hv:0<v.l.length):ew (dB d0 d1 s th 20 obj arg tries) ad3=Gl d0 s th 20 obj arg tries o c dn g r v:=by
 have hb:=H.hb;simp only [zz,H.fZ,H.gI,H.hR,H.hk,dJ r th hb,dO r th hb,mI,ay,bG,uq,eT,dv,du,cQ,cP,dL,act,Int.reduceEq,Gl]<;>(repeat' split)<;>first |rfl|(exfalso; omega)
abbrev ad2:T Lf:=(sp (.eq (ln (ca 8)) (.lit 0)) wH (jq (ca 2) (mk (ca 3)) (mk (ca 4)) bt (mk (ca 6)) (ca 7) (.op .drop (.op .take (ca 8) (.add (.lit 1) (.sub (ln (ca 8)) (.lit 1)))) (.lit 1)) (nm (el (ca 8) (.lit 0))) 2))
theorem ait (H:TH d0 d1 s th 21 obj arg tries o c dn g r v) (hv:0<v.l.length):ew (dB d0 d1 s th 21 obj arg tries) ad2=Gl d0 s th 21 obj arg tries o c dn g r v:=by
 have hb:=H.hb;simp only [zz,H.fZ,H.gI,H.hR,H.hk,dJ r th hb,dO r th hb,PW v hv,bG,uq,eT,dv,du,cQ,cP,dL,act,Int.reduceEq,Gl]<;>(repeat' split)<;>first |rfl|(exfalso; omega)
abbrev ad0:T Lf:=(sp (.eq (nm (ce 0 (el (ca 2) N8))) (.dG 3)) (jq (To (.ei (.i (-1)))) (mk (ca 3)) (mk (ca 4)) bt (mk (ca 6)) (.op .snoc (ca 7) (mk (.dG 3))) (ca 8) (.lit 0) 3) qW)
theorem ais (H:TH d0 d1 s th 12 obj arg tries o c dn g r v) (hr:0<r.l.length) (hw:wo th r.l=r.l):ew (dB d0 d1 s th 12 obj arg tries) ad0=Gl d0 s th 12 obj arg tries o c dn g r v:=by
 have hb:=H.hb;simp only [zz,H.fZ,H.gI,H.hR,H.hk,dJ r th hb,dO r th hb,hw,bJ,mI,ay,bG,uq,eT,dv,du,cQ,cP,dL,act,Int.reduceEq,Gl]<;>(repeat' split)<;>first |rfl|(exfalso; omega)
abbrev agN:T Lf:=(sp (.eq (nm (ce 0 (el (ca 2) N8))) (.dG 3)) (jq (To (.ei (.i (-1)))) (mk (ca 3)) (mk (ca 4)) bt (mk (ca 6)) (.op .take (.op .cat (.op .cat (.op .take (rr 12000 rA 15) (rr 12000 rA 14)) (.op .snoc (.ei (.i 0)) (mk (.dG 3)))) (.op .drop (rr 12000 rA 15) (.add (rr 12000 rA 14) (.lit 1)))) (.add (rr 12000 rA 14) (.lit 1))) (ca 8) (.lit 0) 3) qW)
theorem ak3 (H:TH d0 d1 s th 12 obj arg tries o c dn g r v) (hr:0<r.l.length) (hv:0<v.l.length) {n:Nat} {r1:D} (hn:n<r.l.length) (Y:r1.l.length=r.l.length) (hw:r1.l.take n=wo th r.l) (hd:L 12000 (dA d0 s r v th 12 obj arg tries o c dn g)=some (1::((dA d0 s r v th 12 obj arg tries o c dn g)++ [(n:Int),enc r1,(r.l.length:Int)]))):ew (dB d0 d1 s th 12 obj arg tries) agN=Gl d0 s th 12 obj arg tries o c dn g r v:=by
 have hb:=H.hb;have e3:((n:Int)+1).toNat=n+1:=J
 have hA: ∀B,(wo th r.l++ [D.i th]++B).take (n+1)=wo th r.l++ [.i th]:=fun B=>by
  grind
 have hB:wo th r.l++ [D.i th]≠[]:=ad
 simp only [zz,H.fZ,H.gI,H.hR,H.hk,dJ r th hb,dO r th hb,hd,aR,e3,l_p,gw,bJ,mI,ay,bd,hw,hA,Fa,vv hB,bG,uq,eT,dv,du,cQ,cP,dL,act,Int.reduceEq,Gl]<;>(repeat' split)<;>first |rfl|(exfalso; omega)
abbrev adZ:T Lf:=(sp (.eq (ln (ca 7)) (.lit 0)) (jq (ca 2) (mk (ca 3)) (mk (ca 4)) bt (mk (ca 6)) (ca 7) (ca 8) (.lit 0) 2) (jq (ca 2) (mk (ca 3)) (mk (ca 4)) bt (mk (ca 6)) (.op .drop (.op .take (ca 7) (.add (.lit 1) (.sub (ln (ca 7)) (.lit 1)))) (.lit 1)) (ca 8) (wr (.add (nm (el (ca 7) (.lit 0))) (.lit 1))) 2))
theorem air (H:TH d0 d1 s th 13 obj arg tries o c dn g r v) (hr:0<r.l.length):ew (dB d0 d1 s th 13 obj arg tries) adZ=Gl d0 s th 13 obj arg tries o c dn g r v:=by
 have hb:=H.hb;simp only [zz,H.fZ,H.gI,H.hR,H.hk,dJ r th hb,dO r th hb,PW r hr,mI,ay,bG,uq,eT,dv,du,cQ,cP,dL,act,Int.reduceEq,Gl]<;>(repeat' split)<;>first |rfl|(exfalso; omega)
abbrev adY:T Lf:=(jq (ca 2) (mk (ca 3)) (mk (ca 4)) bt (mk (ca 6)) (.ei (.i 1)) (ca 8) (ln (ca 7)) 2)
theorem aiq (H:TH d0 d1 s th 14 obj arg tries o c dn g r v) (hr:0<r.l.length):ew (dB d0 d1 s th 14 obj arg tries) adY=Gl d0 s th 14 obj arg tries o c dn g r v:=by
 have hb:=H.hb;simp only [zz,H.fZ,H.gI,H.hR,H.hk,dJ r th hb,dO r th hb,mI,ay,bG,uq,eT,dv,du,cQ,cP,dL,act,Int.reduceEq,Gl]<;>(repeat' split)<;>first |rfl|(exfalso; omega)
abbrev Vt:T Lf:=(sp (.eq (rr 900 [ca 7,.dG 3] 0) (.lit 0)) (sp (.lt (nm (ce 0 (el (ca 2) N8))) (.lit 0)) (jq (To (mk (.dG 3))) (mk (ca 3)) (mk (ca 4)) bt (mk (ca 6)) (ca 7) (ca 8) (.lit 0) 2) wH) wH)
theorem S! (H:TH d0 d1 s th 24 obj arg tries o c dn g r v):ew (dB d0 d1 s th 24 obj arg tries) Vt=Gl d0 s th 24 obj arg tries o c dn g r v:=by
 have hb:=H.hb;simp only [zz,H.fZ,H.gI,H.hR,H.hk,dJ r th hb,dO r th hb,bJ,mI,ay,bG,uq,eT,dv,du,cQ,cP,dL,act,Int.reduceEq,Gl]<;>(repeat' split)<;>first |rfl|(exfalso; omega)
abbrev agM:T Lf:=(sp (.lt (ca 6) (.lit 4611686018427387904)) (sp (.eq (wr (.add (ca 4) (.lit 1))) N8) (jq (ca 2) (mk (ca 3)) (.ei (.i 0)) bt (mk (wr (.add (ca 6) (.lit 1)))) (ca 7) (ca 8) (ca 6) 3) (jq (ca 2) (mk (ca 3)) (mk (wr (.add (ca 4) (.lit 1)))) bt (mk (ca 6)) (ca 7) (ca 8) (ca 6) 3)) qW)
theorem ak2 (H:TH d0 d1 s th 15 obj arg tries o c dn g r v):ew (dB d0 d1 s th 15 obj arg tries) agM=Gl d0 s th 15 obj arg tries o c dn g r v:=by
 have hb:=H.hb;simp only [zz,H.fZ,H.gI,H.hR,H.hk,dJ r th hb,dO r th hb,bG,uq,eT,dv,du,cQ,cP,dL,act,Int.reduceEq,Gl]<;>(repeat' split)<;>first |rfl|(exfalso; omega)
abbrev agL:T Lf:=(sp (.lt (.dG 6) (ca 6)) (jq (ca 2) (mk (ca 3)) (mk (ca 4)) bt (mk (ca 6)) (ca 7) (ca 8) (.dG 6) 2) wH)
theorem ak1 (H:TH d0 d1 s th 25 obj arg tries o c dn g r v):ew (dB d0 d1 s th 25 obj arg tries) agL=Gl d0 s th 25 obj arg tries o c dn g r v:=by
 have hb:=H.hb;simp only [zz,H.fZ,H.gI,H.hR,H.hk,dJ r th hb,dO r th hb,bG,uq,eT,dv,du,cQ,cP,dL,act,Int.reduceEq,Gl]<;>(repeat' split)<;>first |rfl|(exfalso; omega)
abbrev agK:T Lf:=(sp (.eq (ca 5) (.lit 0)) (sp (.eq (ca 3) (.dG 3)) qW (sp (.lt (ca 3) (.lit 0)) (jq (ca 2) (mk (.dG 3)) (mk (ca 4)) bt (mk (ca 6)) (ca 7) (ca 8) (.lit 1) 2) wH)) (jq (ca 2) (mk (ca 3)) (mk (ca 4)) bt (mk (ca 6)) (ca 7) (ca 8) (.lit 0) 2))
theorem ak0 (H:TH d0 d1 s th 16 obj arg tries o c dn g r v):ew (dB d0 d1 s th 16 obj arg tries) agK=Gl d0 s th 16 obj arg tries o c dn g r v:=by
 have hb:=H.hb;simp only [zz,H.fZ,H.gI,H.hR,H.hk,dJ r th hb,dO r th hb,bG,uq,eT,dv,du,cQ,cP,dL,act,Int.reduceEq,Gl]<;>(repeat' split)<;>first |rfl|(exfalso; omega)
abbrev agJ:T Lf:=(sp (.eq (ca 3) (.dG 3)) (jq (ca 2) (.ei (.i (-1))) (mk (ca 4)) (.ei (.i 1)) (mk (ca 6)) (ca 7) (ca 8) (.lit 0) 2) qW)
theorem akZ (H:TH d0 d1 s th 26 obj arg tries o c dn g r v):ew (dB d0 d1 s th 26 obj arg tries) agJ=Gl d0 s th 26 obj arg tries o c dn g r v:=by
 have hb:=H.hb;simp only [zz,H.fZ,H.gI,H.hR,H.hk,dJ r th hb,dO r th hb,bG,uq,eT,dv,du,cQ,cP,dL,act,Int.reduceEq,Gl]<;>(repeat' split)<;>first |rfl|(exfalso; omega)
abbrev adX:T Lf:=(sp (.lt (.lit 0) N8) (jq (ca 2) (mk (ca 3)) (mk (ca 4)) bt (mk (ca 6)) (ca 7) (.op .snoc (.ei (.i 0)) (mk (.dG 6))) (.dG 6) 2) wH)
theorem aip (H:TH d0 d1 s th 20 obj arg tries o c dn g r v) (hv:v.l= []):ew (dB d0 d1 s th 20 obj arg tries) adX=Gl d0 s th 20 obj arg tries o c dn g r v:=by
 have hb:=H.hb;have hz2:((0:Nat):Int)=0:=rfl;simp only [zz,H.fZ,H.gI,H.hR,H.hk,dJ r th hb,dO r th hb,hv,bg,ay,hz2,mI,bG,uq,eT,dv,du,cQ,cP,dL,act,Int.reduceEq,Gl]<;>(repeat' split)<;>first |rfl|(exfalso; omega)
abbrev adW:T Lf:=wH
theorem aio (H:TH d0 d1 s th 21 obj arg tries o c dn g r v) (hv:v.l= []):ew (dB d0 d1 s th 21 obj arg tries) adW=Gl d0 s th 21 obj arg tries o c dn g r v:=by
 have hb:=H.hb;have hz2:((0:Nat):Int)=0:=rfl;simp only [zz,H.fZ,H.gI,H.hR,H.hk,dJ r th hb,dO r th hb,hv,bg,ay,hz2,bG,uq,eT,dv,du,cQ,cP,dL,act,Int.reduceEq,Gl]<;>(repeat' split)<;>first |rfl|(exfalso; omega)
abbrev agI:T Lf:=(sp (.eq (nm (ce 0 (el (ca 2) N8))) (.dG 3)) (jq (To (.ei (.i (-1)))) (mk (ca 3)) (mk (ca 4)) bt (mk (ca 6)) (.op .take (.op .cat (.op .cat (.op .take (rr 12100 rA 15) (rr 12100 rA 14)) (.op .snoc (.ei (.i 0)) (mk (.dG 3)))) (.op .drop (rr 12100 rA 15) (.add (rr 12100 rA 14) (.lit 1)))) (.add (rr 12100 rA 14) (.lit 1))) (ca 8) (.lit 0) 3) qW)
theorem akY (H:TH d0 d1 s th 12 obj arg tries o c dn g r v) (hr:0<r.l.length) (hv:v.l= []) {n:Nat} {r1:D} (hn:n<r.l.length) (Y:r1.l.length=r.l.length) (hw:r1.l.take n=wo th r.l) (hd:L 12100 (dA d0 s r v th 12 obj arg tries o c dn g)=some (1::((dA d0 s r v th 12 obj arg tries o c dn g)++ [(n:Int),enc r1,(r.l.length:Int)]))):ew (dB d0 d1 s th 12 obj arg tries) agI=Gl d0 s th 12 obj arg tries o c dn g r v:=by
 have hb:=H.hb;have hz2:((0:Nat):Int)=0:=rfl;have e3:((n:Int)+1).toNat=n+1:=J
 have hA: ∀B,(wo th r.l++ [D.i th]++B).take (n+1)=wo th r.l++ [.i th]:=fun B=>by
  grind
 have hB:wo th r.l++ [D.i th]≠[]:=ad
 simp only [zz,H.fZ,H.gI,H.hR,H.hk,dJ r th hb,dO r th hb,hv,bg,ay,hz2,hd,aR,e3,l_p,gw,bJ,mI,bd,hw,hA,Fa,vv hB,bG,uq,eT,dv,du,cQ,cP,dL,act,Int.reduceEq,Gl]<;>(repeat' split)<;>first |rfl|(exfalso; omega)
abbrev adV:T Lf:=(sp (.eq (ca 3) (.dG 3)) qW (sp (.eq (rr 900 [ca 7,.dG 3] 0) (.lit 0)) (sp (.lt (ca 3) (.lit 0)) (jq (ca 2) (mk (ca 3)) (mk (ca 4)) bt (mk (ca 6)) (.op .snoc (.ei (.i 0)) (mk (.dG 3))) (ca 8) (.lit 0) 2) wH) qW))
theorem ain (H:TH d0 d1 s th 5 obj arg tries o c dn g r v) (hr:r.l= []):ew (dB d0 d1 s th 5 obj arg tries) adV=Gl d0 s th 5 obj arg tries o c dn g r v:=by
 have hb:=H.hb;have hz:((0:Nat):Int)=0:=rfl;simp only [zz,H.fZ,H.gI,H.hR,H.hk,dJ r th hb,dO r th hb,hr,bg,ay,hz,mI,bG,uq,eT,dv,du,cQ,cP,dL,act,Int.reduceEq,Gl]<;>(repeat' split)<;>first |rfl|(exfalso; omega)
theorem aim (H:TH d0 d1 s th 7 obj arg tries o c dn g r v) (hr:r.l= []):ew (dB d0 d1 s th 7 obj arg tries) zt0=Gl d0 s th 7 obj arg tries o c dn g r v:=by
 have hb:=H.hb;have hz:((0:Nat):Int)=0:=rfl;simp only [zz,H.fZ,H.gI,H.hR,H.hk,dJ r th hb,dO r th hb,hr,bg,ay,hz,bG,uq,eT,dv,du,cQ,cP,dL,act,Int.reduceEq,Gl]<;>(repeat' split)<;>first |rfl|(exfalso; omega)
abbrev adU:T Lf:=(sp (.eq (nm (ce 0 (el (ca 2) N8))) (.dG 3)) (jq (To (.ei (.i (-1)))) (mk (ca 3)) (mk (ca 4)) bt (mk (ca 6)) (.op .snoc (.ei (.i 0)) (mk (.dG 3))) (ca 8) (.lit 0) 3) qW)
theorem ail (H:TH d0 d1 s th 12 obj arg tries o c dn g r v) (hr:r.l= []):ew (dB d0 d1 s th 12 obj arg tries) adU=Gl d0 s th 12 obj arg tries o c dn g r v:=by
 have hb:=H.hb;have hz:((0:Nat):Int)=0:=rfl;simp only [zz,H.fZ,H.gI,H.hR,H.hk,dJ r th hb,dO r th hb,hr,bg,ay,hz,aew hr,bJ,mI,bG,uq,eT,dv,du,cQ,cP,dL,act,Int.reduceEq,Gl]<;>(repeat' split)<;>first |rfl|(exfalso; omega)
abbrev adT:T Lf:=(jq (ca 2) (mk (ca 3)) (mk (ca 4)) bt (mk (ca 6)) (ca 7) (ca 8) (.lit 0) 2)
theorem aik (H:TH d0 d1 s th 13 obj arg tries o c dn g r v) (hr:r.l= []):ew (dB d0 d1 s th 13 obj arg tries) adT=Gl d0 s th 13 obj arg tries o c dn g r v:=by
 have hb:=H.hb;have hz:((0:Nat):Int)=0:=rfl;simp only [zz,H.fZ,H.gI,H.hR,H.hk,dJ r th hb,dO r th hb,hr,bg,ay,hz,mI,bG,uq,eT,dv,du,cQ,cP,dL,act,Int.reduceEq,Gl]<;>(repeat' split)<;>first |rfl|(exfalso; omega)
abbrev adS:T Lf:=(jq (ca 2) (mk (ca 3)) (mk (ca 4)) bt (mk (ca 6)) (.ei (.i 1)) (ca 8) (.lit 0) 2)
theorem aij (H:TH d0 d1 s th 14 obj arg tries o c dn g r v) (hr:r.l= []):ew (dB d0 d1 s th 14 obj arg tries) adS=Gl d0 s th 14 obj arg tries o c dn g r v:=by
 have hb:=H.hb;have hz:((0:Nat):Int)=0:=rfl;simp only [zz,H.fZ,H.gI,H.hR,H.hk,dJ r th hb,dO r th hb,hr,bg,ay,hz,mI,bG,uq,eT,dv,du,cQ,cP,dL,act,Int.reduceEq,Gl]<;>(repeat' split)<;>first |rfl|(exfalso; omega)
end
def ops:List Int:=[1,2,8,3,4,5,6,7,9,11,10,17,18,19,22,23,20,21,12,13,14,24,15,25,16,26]
abbrev Yo (k:Int):List SB:=[.eq (.dG 4) (.lit k)]
abbrev No (k:Int):List SB:=(ops.filter fun j=>!(j == k)).map fun j=> .eq (.dG 4) (.lit j)
abbrev p3:T Lf:=prune (YG++YA3) (NG++NA3) iP
abbrev p4:T Lf:=prune (YG++YA4) (NG++NA4) iP
abbrev p5:T Lf:=prune (YG++YA5) (NG++NA5) iP
abbrev p6:T Lf:=prune (YG++YA6) (NG++NA6) iP
section
variable {d0 d1 s r v:D} {th op obj arg tries o c dn g:Int}
theorem VA {ρ:Nat->Int}: ∀{l:List SB},(∀c∈l,¬c.den ρ=true)->zW ρ l
 |[],_=>trivial
 |c::l,h=> ⟨h c ad,VA fun x hx=>h x (anG _ hx)⟩
theorem fO (k:Int):zY (dB d0 d1 s th k obj arg tries) (Yo k)/\zW (dB d0 d1 s th k obj arg tries) (No k):=by
 refine⟨by simp only [zz],VA fun c hc=>?_⟩;obtain⟨j,hj,rfl⟩:=aH.1 hc;have:=(am1.1 hj).2;simp only [zz];intro h
 grind
theorem U3 (H:TH d0 d1 s th op obj arg tries o c dn g r v) (hr:0<r.l.length) (hv:0<v.l.length):ew (dB d0 d1 s th op obj arg tries) p3=ew (dB d0 d1 s th op obj arg tries) iP:=dF (z2 (fG H) (fA3 H hr hv)) iP
theorem U2 (H:TH d0 d1 s th op obj arg tries o c dn g r v) (hr:0<r.l.length) (hv:v.l= []):ew (dB d0 d1 s th op obj arg tries) p4=ew (dB d0 d1 s th op obj arg tries) iP:=dF (z2 (fG H) (fA4 H hr hv)) iP
theorem C' (H:TH d0 d1 s th op obj arg tries o c dn g r v) (hr:r.l= []) (hv:0<v.l.length):ew (dB d0 d1 s th op obj arg tries) p5=ew (dB d0 d1 s th op obj arg tries) iP:=dF (z2 (fG H) (fA5 H hr hv)) iP
theorem C_ (H:TH d0 d1 s th op obj arg tries o c dn g r v) (hr:r.l= []) (hv:v.l= []):ew (dB d0 d1 s th op obj arg tries) p6=ew (dB d0 d1 s th op obj arg tries) iP:=dF (z2 (fG H) (fA6 H hr hv)) iP
theorem iG {k:Int} {t u:T Lf} {Q:RS} (e:prune (Yo k) (No k) t=u) (h:ew (dB d0 d1 s th k obj arg tries) u=Q):ew (dB d0 d1 s th k obj arg tries) t=Q:=by rw [<- dF (fO k) t,e,h]
theorem iH (H:TH d0 d1 s th op obj arg tries o c dn g r v) {u:T Lf} {Q:RS} (e3:prune (Yo op) (No op) p3=u) (e4:prune (Yo op) (No op) p4=u) (e5:prune (Yo op) (No op) p5=u) (e6:prune (Yo op) (No op) p6=u) (h:ew (dB d0 d1 s th op obj arg tries) u=Q):ew (dB d0 d1 s th op obj arg tries) iP=Q:=by
 rcases iV r.l with hr|hr<;>rcases iV v.l with hv|hv
 ·exact (C_ H hr hv).symm.trans (iG e6 h)
 ·exact (C' H hr hv).symm.trans (iG e5 h)
 ·exact (U2 H hr hv).symm.trans (iG e4 h)
 ·exact (U3 H hr hv).symm.trans (iG e3 h)
theorem o1 (H:TH d0 d1 s th 1 obj arg tries o c dn g r v):ew (dB d0 d1 s th 1 obj arg tries) iP=Gl d0 s th 1 obj arg tries o c dn g r v:=iH H (u:=zt0) aa aa aa aa (sm0 H)
theorem o2 (H:TH d0 d1 s th 2 obj arg tries o c dn g r v):ew (dB d0 d1 s th 2 obj arg tries) iP=Gl d0 s th 2 obj arg tries o c dn g r v:=iH H (u:=zt1) aa aa aa aa (sm1 H)
theorem o8 (H:TH d0 d1 s th 8 obj arg tries o c dn g r v):ew (dB d0 d1 s th 8 obj arg tries) iP=Gl d0 s th 8 obj arg tries o c dn g r v:=iH H (u:=zt1) aa aa aa aa (sm2 H)
theorem o3 (H:TH d0 d1 s th 3 obj arg tries o c dn g r v):ew (dB d0 d1 s th 3 obj arg tries) iP=Gl d0 s th 3 obj arg tries o c dn g r v:=iH H (u:=zt2) aa aa aa aa (sm3 H)
theorem o4 (H:TH d0 d1 s th 4 obj arg tries o c dn g r v):ew (dB d0 d1 s th 4 obj arg tries) iP=Gl d0 s th 4 obj arg tries o c dn g r v:=iH H (u:=zt3) aa aa aa aa (sm4 H)
theorem o5 (H:TH d0 d1 s th 5 obj arg tries o c dn g r v):ew (dB d0 d1 s th 5 obj arg tries) iP=Gl d0 s th 5 obj arg tries o c dn g r v:=by
 rcases iV r.l with hr|hr<;>rcases iV v.l with hv|hv
 ·exact (C_ H hr hv).symm.trans (iG (u:=adV) aa (ain H hr))
 ·exact (C' H hr hv).symm.trans (iG (u:=adV) aa (ain H hr))
 ·exact (U2 H hr hv).symm.trans (iG (u:=zt4) aa (sm5 H hr))
 ·exact (U3 H hr hv).symm.trans (iG (u:=zt4) aa (sm5 H hr))
theorem o6 (H:TH d0 d1 s th 6 obj arg tries o c dn g r v):ew (dB d0 d1 s th 6 obj arg tries) iP=Gl d0 s th 6 obj arg tries o c dn g r v:=by
 rcases iV r.l with hr|hr<;>rcases iV v.l with hv|hv
 ·exact (C_ H hr hv).symm.trans (iG (u:=zt5) aa (sm6 H (by rw [vP hr]; omega)))
 ·exact (C' H hr hv).symm.trans (iG (u:=zt5) aa (sm6 H (by rw [vP hr]; omega)))
 ·by_cases hk:place r th<0
  ·exact (U2 H hr hv).symm.trans ((dF (fK0 H hk) _).symm.trans (iG (u:=zt5) aa (sm6 H hk)))
  ·exact (U2 H hr hv).symm.trans ((dF (fK1 H hk) _).symm.trans (iG (u:=zt6) aa (sm7 H hr hk)))
 ·by_cases hk:place r th<0
  ·exact (U3 H hr hv).symm.trans ((dF (fK0 H hk) _).symm.trans (iG (u:=zt5) aa (sm6 H hk)))
  ·exact (U3 H hr hv).symm.trans ((dF (fK1 H hk) _).symm.trans (iG (u:=zt6) aa (sm7 H hr hk)))
theorem o7 (H:TH d0 d1 s th 7 obj arg tries o c dn g r v):ew (dB d0 d1 s th 7 obj arg tries) iP=Gl d0 s th 7 obj arg tries o c dn g r v:=by
 rcases iV r.l with hr|hr<;>rcases iV v.l with hv|hv
 ·exact (C_ H hr hv).symm.trans (iG (u:=zt0) aa (aim H hr))
 ·exact (C' H hr hv).symm.trans (iG (u:=zt0) aa (aim H hr))
 ·exact (U2 H hr hv).symm.trans (iG (u:=zt7) aa (sm8 H hr))
 ·exact (U3 H hr hv).symm.trans (iG (u:=zt7) aa (sm8 H hr))
theorem o9 (H:TH d0 d1 s th 9 obj arg tries o c dn g r v):ew (dB d0 d1 s th 9 obj arg tries) iP=Gl d0 s th 9 obj arg tries o c dn g r v:=iH H (u:=zt8) aa aa aa aa (sm9 H)
theorem o11 (H:TH d0 d1 s th 11 obj arg tries o c dn g r v):ew (dB d0 d1 s th 11 obj arg tries) iP=Gl d0 s th 11 obj arg tries o c dn g r v:=iH H (u:=zt9) aa aa aa aa (ala H)
theorem o10 (H:TH d0 d1 s th 10 obj arg tries o c dn g r v):ew (dB d0 d1 s th 10 obj arg tries) iP=Gl d0 s th 10 obj arg tries o c dn g r v:=iH H (u:=agT) aa aa aa aa (ak9 H)
theorem o17 (H:TH d0 d1 s th 17 obj arg tries o c dn g r v):ew (dB d0 d1 s th 17 obj arg tries) iP=Gl d0 s th 17 obj arg tries o c dn g r v:=iH H (u:=agS) aa aa aa aa (ak8 H)
theorem o18 (H:TH d0 d1 s th 18 obj arg tries o c dn g r v):ew (dB d0 d1 s th 18 obj arg tries) iP=Gl d0 s th 18 obj arg tries o c dn g r v:=iH H (u:=agR) aa aa aa aa (ak7 H)
theorem o19 (H:TH d0 d1 s th 19 obj arg tries o c dn g r v):ew (dB d0 d1 s th 19 obj arg tries) iP=Gl d0 s th 19 obj arg tries o c dn g r v:=iH H (u:=agQ) aa aa aa aa (ak6 H)
theorem o22 (H:TH d0 d1 s th 22 obj arg tries o c dn g r v):ew (dB d0 d1 s th 22 obj arg tries) iP=Gl d0 s th 22 obj arg tries o c dn g r v:=iH H (u:=agP) aa aa aa aa (ak5 H)
theorem o23 (H:TH d0 d1 s th 23 obj arg tries o c dn g r v):ew (dB d0 d1 s th 23 obj arg tries) iP=Gl d0 s th 23 obj arg tries o c dn g r v:=iH H (u:=agO) aa aa aa aa (ak4 H)
theorem o20 (H:TH d0 d1 s th 20 obj arg tries o c dn g r v):ew (dB d0 d1 s th 20 obj arg tries) iP=Gl d0 s th 20 obj arg tries o c dn g r v:=by
 rcases iV r.l with hr|hr<;>rcases iV v.l with hv|hv
 ·exact (C_ H hr hv).symm.trans (iG (u:=adX) aa (aip H hv))
 ·exact (C' H hr hv).symm.trans (iG (u:=ad3) aa (aiu H hv))
 ·exact (U2 H hr hv).symm.trans (iG (u:=adX) aa (aip H hv))
 ·exact (U3 H hr hv).symm.trans (iG (u:=ad3) aa (aiu H hv))
theorem o21 (H:TH d0 d1 s th 21 obj arg tries o c dn g r v):ew (dB d0 d1 s th 21 obj arg tries) iP=Gl d0 s th 21 obj arg tries o c dn g r v:=by
 rcases iV r.l with hr|hr<;>rcases iV v.l with hv|hv
 ·exact (C_ H hr hv).symm.trans (iG (u:=adW) aa (aio H hv))
 ·exact (C' H hr hv).symm.trans (iG (u:=ad2) aa (ait H hv))
 ·exact (U2 H hr hv).symm.trans (iG (u:=adW) aa (aio H hv))
 ·exact (U3 H hr hv).symm.trans (iG (u:=ad2) aa (ait H hv))
theorem o12 (H:TH d0 d1 s th 12 obj arg tries o c dn g r v):ew (dB d0 d1 s th 12 obj arg tries) iP=Gl d0 s th 12 obj arg tries o c dn g r v:=by
 rcases iV r.l with hr|hr<;>rcases iV v.l with hv|hv
 ·have hd:=aa0 r th obj (Mx d0 obj) (enc (dL (fC s.l (Mx d0 obj) (dL (fC (s.at (Mx d0 obj)).l 0 (.i (-1))))))) 12 arg tries o c dn g (enc v);exact (C_ H hr hv).symm.trans ((dF (fM H J) _).symm.trans ((dF (al0 H hd) _).symm.trans (iG (u:=adU) aa (ail H hr))))
 ·have hd:=aa1 r th obj (Mx d0 obj) (enc (dL (fC s.l (Mx d0 obj) (dL (fC (s.at (Mx d0 obj)).l 0 (.i (-1))))))) 12 arg tries o c dn g (enc v);exact (C' H hr hv).symm.trans ((dF (fM H J) _).symm.trans ((dF (al3 H hd) _).symm.trans (iG (u:=adU) aa (ail H hr))))
 ·rcases aa2 r th (by have:=H.hr; omega) H.hn with ⟨hw,hd⟩|hd
  ·have hd:=hd obj (Mx d0 obj) (enc (dL (fC s.l (Mx d0 obj) (dL (fC (s.at (Mx d0 obj)).l 0 (.i (-1))))))) 12 arg tries o c dn g (enc v);exact (U2 H hr hv).symm.trans ((dF (fM H J) _).symm.trans ((dF (al4 H hd) _).symm.trans (iG (u:=ad0) aa (ais H hr hw))))
  ·obtain⟨n,r1,hn,Y,hw,hd⟩:=hd obj (Mx d0 obj) (enc (dL (fC s.l (Mx d0 obj) (dL (fC (s.at (Mx d0 obj)).l 0 (.i (-1))))))) 12 arg tries o c dn g (enc v);exact (U2 H hr hv).symm.trans ((dF (fM H J) _).symm.trans ((dF (al5 H hn Y hd) _).symm.trans (iG (u:=agI) aa (akY H hr hv hn Y hw hd))))
 ·rcases aa3 r th (by have:=H.hr; omega) H.hn with ⟨hw,hd⟩|hd
  ·have hd:=hd obj (Mx d0 obj) (enc (dL (fC s.l (Mx d0 obj) (dL (fC (s.at (Mx d0 obj)).l 0 (.i (-1))))))) 12 arg tries o c dn g (enc v);exact (U3 H hr hv).symm.trans ((dF (fM H J) _).symm.trans ((dF (al6 H hd) _).symm.trans (iG (u:=ad0) aa (ais H hr hw))))
  ·obtain⟨n,r1,hn,Y,hw,hd⟩:=hd obj (Mx d0 obj) (enc (dL (fC s.l (Mx d0 obj) (dL (fC (s.at (Mx d0 obj)).l 0 (.i (-1))))))) 12 arg tries o c dn g (enc v);exact (U3 H hr hv).symm.trans ((dF (fM H J) _).symm.trans ((dF (al7 H hn Y hd) _).symm.trans (iG (u:=agN) aa (ak3 H hr hv hn Y hw hd))))
theorem o13 (H:TH d0 d1 s th 13 obj arg tries o c dn g r v):ew (dB d0 d1 s th 13 obj arg tries) iP=Gl d0 s th 13 obj arg tries o c dn g r v:=by
 rcases iV r.l with hr|hr<;>rcases iV v.l with hv|hv
 ·exact (C_ H hr hv).symm.trans (iG (u:=adT) aa (aik H hr))
 ·exact (C' H hr hv).symm.trans (iG (u:=adT) aa (aik H hr))
 ·exact (U2 H hr hv).symm.trans (iG (u:=adZ) aa (air H hr))
 ·exact (U3 H hr hv).symm.trans (iG (u:=adZ) aa (air H hr))
theorem o14 (H:TH d0 d1 s th 14 obj arg tries o c dn g r v):ew (dB d0 d1 s th 14 obj arg tries) iP=Gl d0 s th 14 obj arg tries o c dn g r v:=by
 rcases iV r.l with hr|hr<;>rcases iV v.l with hv|hv
 ·exact (C_ H hr hv).symm.trans (iG (u:=adS) aa (aij H hr))
 ·exact (C' H hr hv).symm.trans (iG (u:=adS) aa (aij H hr))
 ·exact (U2 H hr hv).symm.trans (iG (u:=adY) aa (aiq H hr))
 ·exact (U3 H hr hv).symm.trans (iG (u:=adY) aa (aiq H hr))
theorem o24 (H:TH d0 d1 s th 24 obj arg tries o c dn g r v):ew (dB d0 d1 s th 24 obj arg tries) iP=Gl d0 s th 24 obj arg tries o c dn g r v:=by
 rcases iV r.l with hr|hr<;>rcases iV v.l with hv|hv
 ·exact (C_ H hr hv).symm.trans ((dF (fM H J) _).symm.trans (iG (u:=Vt) aa (S! H)))
 ·exact (C' H hr hv).symm.trans ((dF (fM H J) _).symm.trans (iG (u:=Vt) aa (S! H)))
 ·exact (U2 H hr hv).symm.trans ((dF (fM H J) _).symm.trans (iG (u:=Vt) aa (S! H)))
 ·exact (U3 H hr hv).symm.trans ((dF (fM H J) _).symm.trans (iG (u:=Vt) aa (S! H)))
theorem o15 (H:TH d0 d1 s th 15 obj arg tries o c dn g r v):ew (dB d0 d1 s th 15 obj arg tries) iP=Gl d0 s th 15 obj arg tries o c dn g r v:=iH H (u:=agM) aa aa aa aa (ak2 H)
theorem o25 (H:TH d0 d1 s th 25 obj arg tries o c dn g r v):ew (dB d0 d1 s th 25 obj arg tries) iP=Gl d0 s th 25 obj arg tries o c dn g r v:=iH H (u:=agL) aa aa aa aa (ak1 H)
theorem o16 (H:TH d0 d1 s th 16 obj arg tries o c dn g r v):ew (dB d0 d1 s th 16 obj arg tries) iP=Gl d0 s th 16 obj arg tries o c dn g r v:=iH H (u:=agK) aa aa aa aa (ak0 H)
theorem o26 (H:TH d0 d1 s th 26 obj arg tries o c dn g r v):ew (dB d0 d1 s th 26 obj arg tries) iP=Gl d0 s th 26 obj arg tries o c dn g r v:=iH H (u:=agJ) aa aa aa aa (akZ H)
theorem M_ (H:TH d0 d1 s th op obj arg tries o c dn g r v) (w6:op∈ops):L 400 [enc d0,enc d1,enc s,th,op,obj,arg,tries]=some (DQ s th op obj (Mx d0 obj) (act (Mx d0 obj) (Mo d0 s obj) th op arg tries o c dn g r v)):=by
 rw [bL,agb]
 suffices h:ew (dB d0 d1 s th op obj arg tries) iP=Gl d0 s th op obj arg tries o c dn g r v by rw [h]; rfl
 unfold ops at w6;simp only [ax,amY,or_false] at w6;rcases w6 with rfl|rfl|rfl|rfl|rfl|rfl|rfl|rfl|rfl|rfl|rfl|rfl|rfl|rfl|rfl|rfl|rfl|rfl|rfl|rfl|rfl|rfl|rfl|rfl|rfl|rfl
 ·exact o1 H
 ·exact o2 H
 ·exact o8 H
 ·exact o3 H
 ·exact o4 H
 ·exact o5 H
 ·exact o6 H
 ·exact o7 H
 ·exact o9 H
 ·exact o11 H
 ·exact o10 H
 ·exact o17 H
 ·exact o18 H
 ·exact o19 H
 ·exact o22 H
 ·exact o23 H
 ·exact o20 H
 ·exact o21 H
 ·exact o12 H
 all_goals grind [o13,o14,o24,o15,o25,o16,o26]
end
abbrev XH:T Lf:=ou [.op .set (ca 2) (thg (mk (ca 3)) (mk (ca 4)) bt (mk (ca 6)) (ca 7) (ca 8)),.lit 0,.lit 0,.lit 0,.lit 0,.lit 0,.lit 0]
abbrev Ya (a:Int):List SB:=[.eq (a0 9000 [.dG 5,.dG 2]) (.lit 1),.eq (ca 0) (.lit a),.eq (a0 350 [.dG 0,.dG 1,.dG 2]) (.lit 1)]
abbrev Na (a:Int):List SB:=([0,1,2,3,4,5].filter fun j=>!(j == a)).map fun j=> .eq (ca 0) (.lit j)
abbrev r3:SB:=.eq (rr 350 [.dG 0,.dG 1,.dG 2] 0) (.lit 0)
abbrev t3:SB:=.lt (.dG 3) (.lit 0)
abbrev u3:SB:=.lt (.dG 3) (ln (.dG 1))
section
variable {d0 d1 s r v:D} {th op obj arg tries o c dn g b kop a:Int} (hR:L 350 [enc d0,enc d1,enc s]=some [b])
include hR
theorem fa {l:List Int} (hc:L 9000 [obj,enc s]=some (a::l)):zY (dB d0 d1 s th op obj arg tries) (Ya a)/\zW (dB d0 d1 s th op obj arg tries) (Na a):=by
 refine⟨by simp only [zz,hc,hR],VA fun c hc'=>?_⟩;obtain⟨j,hj,rfl⟩:=aH.1 hc';have:=(am1.1 hj).2;simp only [zz,hc];intro h
 grind
theorem rh (k:ew (dB d0 d1 s th op obj arg tries) iP= .out [enc s,0,0,0,0,0,0]):L 400 [enc d0,enc d1,enc s,th,op,obj,arg,tries]=some [enc s,0,0,0,0,0,0]:=by rw [bL,agb];exact congrArg (fin L) k
section
variable (ha:a=3\/a=4\/a=5\/a=6) (fZ:L 9000 [obj,enc s]=some [a,obj,enc s,o,c,dn,g,enc r,enc v]) (u4:0<=obj) (uZ:obj<(s.l.length:Int)) (hd:dn=0\/dn=1) (hs:s=dL (fC s.l obj (dL [.i o,.i c,.i dn,.i g,r,v])))
include ha fZ u4 uZ hd hs
omit ha hR u4 uZ in
theorem CC:ew (dB d0 d1 s th op obj arg tries) XH= .out [enc s,0,0,0,0,0,0]:=by
 have e:(if dn=0 then (0:Int) else 1)=dn:=by rcases hd with rfl|rfl<;>rfl
 simp only [dL] at hs;simp only [zz,fZ,e,<- hs]
theorem alf (h:b=0):L 400 [enc d0,enc d1,enc s,th,op,obj,arg,tries]=some [enc s,0,0,0,0,0,0]:=
 rh hR (ee (Ya a++ [r3]) (Na a++ []) XH (z2 (fa hR fZ) (by simp only [zz,fZ,hR]<;>omega)) (by rcases ha with rfl|rfl|rfl|rfl<;>kernel_rfl) (CC fZ hd hs))
theorem ale (hb:b≠0) (h:th<0):L 400 [enc d0,enc d1,enc s,th,op,obj,arg,tries]=some [enc s,0,0,0,0,0,0]:=
 rh hR (ee (Ya a++ [t3]) (Na a++ [r3]) XH (z2 (fa hR fZ) (by simp only [zz,fZ,hR]<;>omega)) (by rcases ha with rfl|rfl|rfl|rfl<;>kernel_rfl) (CC fZ hd hs))
theorem ald (hb:b≠0) (h0:0<=th) (h: ¬th<(d1.l.length:Int)):L 400 [enc d0,enc d1,enc s,th,op,obj,arg,tries]=some [enc s,0,0,0,0,0,0]:=
 rh hR (ee (Ya a++ []) (Na a++ [r3,t3,u3]) XH (z2 (fa hR fZ) (by simp only [zz,fZ,hR]<;>omega)) (by rcases ha with rfl|rfl|rfl|rfl<;>kernel_rfl) (CC fZ hd hs))
theorem alg (hb:b≠0) (h0:0<=th) (h:th<(d1.l.length:Int)) (hk:L 600 [op]=some [kop]) (hlen:s.l.length=d0.l.length) (fJ: ¬kop=((d0.at obj).hd 0).n):L 400 [enc d0,enc d1,enc s,th,op,obj,arg,tries]=some [enc s,0,0,0,0,0,0]:=
 rh hR (ee (Ya a++ [u3,.lt (.dG 5) (ln (ca 2)),.eq (a0 600 [.dG 4]) (.lit 1),.lt (.dG 5) (ln (.dG 0))]) (Na a++ [r3,t3,.lt (.dG 5) (.lit 0),.eq (rr 600 [.dG 4] 0) (nm (ce 0 (el (.dG 0) (.dG 5))))]) XH (z2 (fa hR fZ) (by simp only [zz,fZ,hR,hk]<;>omega)) (by rcases ha with rfl|rfl|rfl|rfl<;>kernel_rfl) (CC fZ hd hs))
end
theorem aiI (fZ:L 9000 [obj,enc s]=some [0,obj,enc s]) (h:obj<0):L 400 [enc d0,enc d1,enc s,th,op,obj,arg,tries]=some [enc s,0,0,0,0,0,0]:=
 rh hR (ee (Ya 0++ [.lt (.dG 5) (.lit 0)]) (Na 0++ []) (sp r3 (ou [ca 2,.lit 0,.lit 0,.lit 0,.lit 0,.lit 0,.lit 0]) (sp t3 (ou [ca 2,.lit 0,.lit 0,.lit 0,.lit 0,.lit 0,.lit 0]) (sp u3 (ou [ca 2,.lit 0,.lit 0,.lit 0,.lit 0,.lit 0,.lit 0]) (ou [ca 2,.lit 0,.lit 0,.lit 0,.lit 0,.lit 0,.lit 0])))) (z2 (fa hR fZ) (by simp only [zz,fZ]<;>omega)) aa (by simp only [zz,fZ,hR,ite_self]))
theorem aiH (fZ:L 9000 [obj,enc s]=some [0,obj,enc s]) (h0:0<=obj) (h: ¬obj<(s.l.length:Int)):L 400 [enc d0,enc d1,enc s,th,op,obj,arg,tries]=some [enc s,0,0,0,0,0,0]:=
 rh hR (ee (Ya 0++ []) (Na 0++ [.lt (.dG 5) (.lit 0),.lt (.dG 5) (ln (ca 2))]) (sp r3 (ou [ca 2,.lit 0,.lit 0,.lit 0,.lit 0,.lit 0,.lit 0]) (sp t3 (ou [ca 2,.lit 0,.lit 0,.lit 0,.lit 0,.lit 0,.lit 0]) (sp u3 (ou [ca 2,.lit 0,.lit 0,.lit 0,.lit 0,.lit 0,.lit 0]) (ou [ca 2,.lit 0,.lit 0,.lit 0,.lit 0,.lit 0,.lit 0])))) (z2 (fa hR fZ) (by simp only [zz,fZ]<;>omega)) aa (by simp only [zz,fZ,hR,ite_self]))
theorem aiG (fZ:L 9000 [obj,enc s]=some [1,obj]) (h:obj<0) (hs:s= .i 1):L 400 [enc d0,enc d1,enc s,th,op,obj,arg,tries]=some [enc s,0,0,0,0,0,0]:=
 rh hR (ee (Ya 1++ [.lt (.dG 5) (.lit 0)]) (Na 1++ []) (sp r3 (ou [.ei (.i 1),.lit 0,.lit 0,.lit 0,.lit 0,.lit 0,.lit 0]) (sp t3 (ou [.ei (.i 1),.lit 0,.lit 0,.lit 0,.lit 0,.lit 0,.lit 0]) (sp u3 (ou [.ei (.i 1),.lit 0,.lit 0,.lit 0,.lit 0,.lit 0,.lit 0]) (ou [.ei (.i 1),.lit 0,.lit 0,.lit 0,.lit 0,.lit 0,.lit 0])))) (z2 (fa hR fZ) (by simp only [zz,fZ]<;>omega)) aa (by simp only [zz,fZ,hR,hs,ite_self]))
theorem aiF (fZ:L 9000 [obj,enc s]=some [1,obj]) (h0:0<=obj) (h: ¬obj<(s.l.length:Int)) (hs:s= .i 1):L 400 [enc d0,enc d1,enc s,th,op,obj,arg,tries]=some [enc s,0,0,0,0,0,0]:=
 rh hR (ee (Ya 1++ []) (Na 1++ [.lt (.dG 5) (.lit 0)]) (sp r3 (ou [.ei (.i 1),.lit 0,.lit 0,.lit 0,.lit 0,.lit 0,.lit 0]) (sp t3 (ou [.ei (.i 1),.lit 0,.lit 0,.lit 0,.lit 0,.lit 0,.lit 0]) (sp u3 (ou [.ei (.i 1),.lit 0,.lit 0,.lit 0,.lit 0,.lit 0,.lit 0]) (ou [.ei (.i 1),.lit 0,.lit 0,.lit 0,.lit 0,.lit 0,.lit 0])))) (z2 (fa hR fZ) (by simp only [zz,fZ]<;>omega)) aa (by simp only [zz,fZ,hR,hs,ite_self]))
theorem aiE (fZ:L 9000 [obj,enc s]=some [2,obj]) (h:obj<0) (hs:s= .i 2):L 400 [enc d0,enc d1,enc s,th,op,obj,arg,tries]=some [enc s,0,0,0,0,0,0]:=
 rh hR (ee (Ya 2++ [.lt (.dG 5) (.lit 0)]) (Na 2++ []) (sp r3 (ou [.ei (.i 2),.lit 0,.lit 0,.lit 0,.lit 0,.lit 0,.lit 0]) (sp t3 (ou [.ei (.i 2),.lit 0,.lit 0,.lit 0,.lit 0,.lit 0,.lit 0]) (sp u3 (ou [.ei (.i 2),.lit 0,.lit 0,.lit 0,.lit 0,.lit 0,.lit 0]) (ou [.ei (.i 2),.lit 0,.lit 0,.lit 0,.lit 0,.lit 0,.lit 0])))) (z2 (fa hR fZ) (by simp only [zz,fZ]<;>omega)) aa (by simp only [zz,fZ,hR,hs,ite_self]))
theorem aiD (fZ:L 9000 [obj,enc s]=some [2,obj]) (h0:0<=obj) (h: ¬obj<(s.l.length:Int)) (hs:s= .i 2):L 400 [enc d0,enc d1,enc s,th,op,obj,arg,tries]=some [enc s,0,0,0,0,0,0]:=
 rh hR (ee (Ya 2++ []) (Na 2++ [.lt (.dG 5) (.lit 0)]) (sp r3 (ou [.ei (.i 2),.lit 0,.lit 0,.lit 0,.lit 0,.lit 0,.lit 0]) (sp t3 (ou [.ei (.i 2),.lit 0,.lit 0,.lit 0,.lit 0,.lit 0,.lit 0]) (sp u3 (ou [.ei (.i 2),.lit 0,.lit 0,.lit 0,.lit 0,.lit 0,.lit 0]) (ou [.ei (.i 2),.lit 0,.lit 0,.lit 0,.lit 0,.lit 0,.lit 0])))) (z2 (fa hR fZ) (by simp only [zz,fZ]<;>omega)) aa (by simp only [zz,fZ,hR,hs,ite_self]))
end
def kindOf (o:Int):Int:=if o<27 then (if o=0 then 0 else if o=1 then 1 else if o=2 then 1 else if o=3 then 1 else if o=4 then 1 else if o=5 then 2 else if o=6 then 2 else if o=7 then 2 else if o=8 then 2 else if o=9 then 3 else if o=10 then 3 else if o=11 then 3 else if o=12 then 4 else if o=13 then 4 else if o=14 then 4 else if o=15 then 5 else if o=16 then 6 else if o=17 then 7 else if o=18 then 7 else if o=19 then 7 else if o=20 then 8 else if o=21 then 8 else if o=22 then 9 else if o=23 then 9 else if o=24 then 4 else if o=25 then 5 else 6) else 0
theorem Lm (o:Int) (h:gq .u8 o):L 600 [o]=some [kindOf o]:=by
 have U:=h.1;have w:=ahA h;have c1: ¬(o<0):=J
 rw [bL,aj9];simp only [ahP,zz,w,c1];by_cases h27:o<27
 ·simp only [ag h27];have:o=0\/o=1\/o=2\/o=3\/o=4\/o=5\/o=6\/o=7\/o=8\/o=9\/o=10\/o=11\/o=12\/o=13\/o=14\/o=15\/o=16\/o=17\/o=18\/o=19\/o=20\/o=21\/o=22\/o=23\/o=24\/o=25\/o=26:=J
  rcases this with rfl|rfl|rfl|rfl|rfl|rfl|rfl|rfl|rfl|rfl|rfl|rfl|rfl|rfl|rfl|rfl|rfl|rfl|rfl|rfl|rfl|rfl|rfl|rfl|rfl|rfl|rfl
  all_goals rfl
 ·simp only [af h27];unfold kindOf;rw [af h27];rfl
theorem X4 {o:Int} (h0:0<=o) (h:kindOf o≠0):o∈ops:=by
 have h27:o<27:=by
  refine Decidable.byContradiction fun hn=>h ?_;unfold kindOf
  grind
 have:o=0\/o=1\/o=2\/o=3\/o=4\/o=5\/o=6\/o=7\/o=8\/o=9\/o=10\/o=11\/o=12\/o=13\/o=14\/o=15\/o=16\/o=17\/o=18\/o=19\/o=20\/o=21\/o=22\/o=23\/o=24\/o=25\/o=26:=J
 rcases this with rfl|rfl|rfl|rfl|rfl|rfl|rfl|rfl|rfl|rfl|rfl|rfl|rfl|rfl|rfl|rfl|rfl|rfl|rfl|rfl|rfl|rfl|rfl|rfl|rfl|rfl|rfl
 all_goals first |exact absurd rfl h|decide
structure Acc (d0 d1 s:D) (th op obj:Int):Prop where
 r:L 350 [enc d0,enc d1,enc s]=some [1]
 t0:0<=th
 t1:th<(d1.l.length:Int)
 o0:0<=obj
 o1:obj<(s.l.length:Int)
 k:kindOf op=((d0.at obj).hd 0).n
structure Tg (x:D) (o c dn g:Int) (r v:D):Prop where
 is:x=dL [.i o,.i c,.i dn,.i g,r,v]
 ho:gq .i64 o
 hc:gq .i64 c
 hd:dn=0\/dn=1
 hg:gq .i64 g
 hr:Wd (.sl 0) r
 hv:Wd (.sl 0) v
theorem yn {x:D} (h:vY x): ∃o c dn g r v,Tg x o c dn g r v:=by obtain⟨o,c,d,g,r,v,U,Z,h3,h4,h5,h6,h7⟩:=h;exact⟨o,c,d,g,r,v,U,Z,h3,h4,h5,h6,h7⟩
theorem L_ {r:D} (h:Wd (.sl 0) r): ∀x∈r.l,x= .i x.n:=by intro x hx;obtain⟨n,rfl,_⟩:=(h.el1 rfl x hx).i;rfl
def l7 (s:D):Prop:= ∀x∈s.l,(x.hd 4).l.length<17592186044415/\(x.hd 5).l.length<17592186044415
theorem l7.rows {s:D} (h:l7 s):AG s:=fun x hx=>by have:=(h x hx).1; omega
section
variable {d0 d1 s:D} {th op obj arg tries:Int} (h0:Wd (.sl 3) d0) (U:Wd (.sl 4) d1) (hs:Wd (.sl 7) s) (hf:l7 s) (w6:gq .u8 op)
include h0 U hf in
theorem DC (h:L 350 [enc d0,enc d1,enc s]=some [1]):uO d0 d1/\s.l.length=d0.l.length:=by
 obtain⟨b,hb,_,hi⟩:=lN h0 U hf.rows;rw [h] at hb;simp only [ah,List.cons.injEq,and_true] at hb;obtain⟨hC,hle,_⟩:=hi.1 hb.symm;obtain⟨ys,hC',c,rfl,_,oM⟩:=wD h0 U
 grind
include h0 U hf in
theorem SK (A:Acc d0 d1 s th op obj):XA d0 (d0.at obj)/\s.l.length=d0.l.length:=by
 obtain⟨oM,hle⟩:=DC h0 U hf A.r;refine⟨?_,hle⟩;have a1:=A.o0; have a2:=A.o1;obtain⟨i,rfl⟩ : ∃i:Nat,obj=(i:Int):=⟨obj.toNat,J⟩;have hi:i<d0.l.length:=J
 rw [bX hi];exact oM.2.2 _ (az hi)
include h0 U hs hf w6
theorem MK (A:Acc d0 d1 s th op obj) (h:op=12\/op=24):0<=Mx d0 obj/\Mx d0 obj<(s.l.length:Int)/\Mx d0 obj≠obj:=by
 obtain⟨ho,hle⟩:=SK h0 U hf A
 have h4:((d0.at obj).hd 0).n=4:=by rw [<- A.k];rcases h with rfl|rfl<;>rfl
 obtain⟨m1,m2,m3⟩:=ho.2.2.2.2.2 h4
 grind
theorem Cx (A:Acc d0 d1 s th op obj):op∈ops/\∃o c dn g r v,Tg (s.at obj) o c dn g r v/\
 L 400 [enc d0,enc d1,enc s,th,op,obj,arg,tries]=some (DQ s th op obj (Mx d0 obj) (act (Mx d0 obj) (Mo d0 s obj) th op arg tries o c dn g r v)):=by
 obtain⟨ho,hle⟩:=SK h0 U hf A;have u6:op∈ops:=X4 w6.1 (by rw [A.k]; have:=ho.1; omega);have a1:=A.o0; have a2:=A.o1;obtain⟨i,rfl⟩ : ∃i:Nat,obj=(i:Int):=⟨obj.toNat,J⟩;have hi:i<s.l.length:=J
 have ht:=wS hs J;obtain⟨o,c,dn,g,r,v,T⟩:=yn (hs.mN _ (az hi));have hfx:=hf _ (az hi);rw [T.is] at hfx;have sZ:L 600 [op]=some [((d0.at (i:Int)).hd 0).n]:=by rw [Lm op w6,A.k]
 refine⟨u6,o,c,dn,g,r,v,by rw [bX hi]; exact T,?_⟩;refine M_ ⟨adE s ht i hi o c dn g r v T.is,l! s hs,A.r,A.t0,A.t1,A.o0,A.o1,hle,sZ,?_,?_,(L_ T.hr),fun h=>MK h0 U hs hf w6 A h⟩ u6
 ·have:(r.l.length:Int)<17592186044415:=aoe.2 hfx.1
  grind
 ·have:(v.l.length:Int)<17592186044415:=aoe.2 hfx.2
  grind
theorem Nk (A: ¬Acc d0 d1 s th op obj):L 400 [enc d0,enc d1,enc s,th,op,obj,arg,tries]=some [enc s,0,0,0,0,0,0]:=by
 obtain⟨b,hb,LM,_⟩:=lN h0 U hf.rows;by_cases ho:0<=obj/\obj<(s.l.length:Int)
 ·obtain⟨i,rfl⟩ : ∃i:Nat,obj=(i:Int):=⟨obj.toNat,J⟩;have hi:i<s.l.length:=J
  have ht:=wS hs J;obtain⟨o,c,dn,g,r,v,T⟩:=yn (hs.mN _ (az hi));have fZ:=adE s ht i hi o c dn g r v T.is
  have hss:s=dL (fC s.l (i:Int) (dL [.i o,.i c,.i dn,.i g,r,v])):=by
   have:=eS ht.sh hi;rw [T.is] at this
   grind
  have sZ:=Lm op w6
  have key: ∀alt:Int,(alt=3\/alt=4\/alt=5\/alt=6)->L 9000 [(i:Int),enc s]=some [alt,(i:Int),enc s,o,c,dn,g,enc r,enc v]->L 400 [enc d0,enc d1,enc s,th,op,(i:Int),arg,tries]=some [enc s,0,0,0,0,0,0]:=by
   intro alt ha fZ;by_cases rz:b=0
   ·exact alf hb ha fZ ho.1 ho.2 T.hd hss rz
   ·have RM:b=1:=J
    by_cases t0:th<0
    ·exact ale hb ha fZ ho.1 ho.2 T.hd hss rz t0
    ·by_cases t1:th<(d1.l.length:Int)
     ·have fJ: ¬kindOf op=((d0.at (i:Int)).hd 0).n:=fun hk=>A ⟨by rw [hb,RM],J,t1,ho.1,ho.2,hk⟩;obtain⟨_,hle⟩:=DC h0 U hf (by rw [hb,RM]);exact alg hb ha fZ ho.1 ho.2 T.hd hss rz J t1 sZ hle fJ
     ·exact ald hb ha fZ ho.1 ho.2 T.hd hss rz J t1
  refine key _ ?_ fZ;unfold lG
  grind
 ·obtain⟨ys,hc,Hd⟩:=akC s hs obj J;by_cases hn:obj<0
  ·rcases Hd with rfl|⟨rfl,he⟩|⟨rfl,he⟩
   ·exact aiI hb hc hn
   ·exact aiG hb hc hn he
   ·exact aiE hb hc hn he
  ·rcases Hd with rfl|⟨rfl,he⟩|⟨rfl,he⟩
   ·exact aiH hb hc J J
   ·exact aiF hb hc J J he
   ·exact aiD hb hc J J he
end
theorem Cw {d:D} {l:List D} (h: ∀x∈l,∃n,x= .i n/\gq .i64 n) (Y:l.length<=17592186043904):Wd (.sl 0) (eY d l):=by
 cases l with
 |nil=>
  show Wd (.sl 0) (if d= .i 1 then .i 1 else .i 2);split
  ·exact .nil 0
  ·exact .uQ 0
 |cons a l=> refine .one 0 (.int .i64) (a::l) rfl ad (by have:pW 0=8:=rfl; rw [this]; omega) fun x hx=>?_;obtain⟨n,rfl,hn⟩:=h x hx;exact .int _ _ hn
theorem vJ {l:List D} (h: ∀x∈l,∃n,x= .i n/\gq .i64 n) (hn:l≠[]) (Y:l.length<=17592186043904):Wd (.sl 0) (dL l):=by rw [<- vv (d:=.i 2) hn];exact Cw h Y
theorem su {r:D} (h:Wd (.sl 0) r): ∀x∈r.l,∃n,x= .i n/\gq .i64 n:=fun x hx=>(h.el1 rfl x hx).i
theorem qj (z:Int):gq .i64 (IntKind.i64.wrap z):=by constructor<;>(rw [IntKind.wrap_i64]; omega)
def FF (n:Nat):Act->Prop
 | .res o c dn g r v m _ oc=>gq .i64 o/\gq .i64 c/\(dn=0\/dn=1)/\gq .i64 g/\Wd (.sl 0) r/\r.l.length<=n/\Wd (.sl 0) v/\v.l.length<=n/\(∀q,m=some q->gq .i64 q)/\(oc=2\/oc=3)
 |_=>True
theorem FF.ite {n:Nat} {p:Prop} [Decidable p] {a b:Act} (ha:FF n a) (hb:FF n b):FF n (if p then a else b):=by
 grind
def NoM:Act->Prop
 | .res _ _ _ _ _ _ m _ _=>m=none
 |_=>True
theorem NoM.ite {p:Prop} [Decidable p] {a b:Act} (ha:NoM a) (hb:NoM b):NoM (if p then a else b):=by
 grind
section
variable {x:D} {M mo th op arg tries o c dn g:Int} {r v:D}
theorem agB (T:Tg x o c dn g r v) {n:Nat} (hr:r.l.length<=n) (hv:v.l.length<=n) (hn:n<17592186043904) (ht:gq .i64 th) (ha:gq .i64 arg):FF (n+1) (act M mo th op arg tries o c dn g r v):=by
 have hm:gq .i64 (-1):=⟨J,J⟩;have hz:gq .i64 0:=⟨J,J⟩;have e1: ∀q:Int,(none:Option Int)=some q->gq .i64 q:=fun q h=>by simp at h
 have e2: ∀{p:Int},gq .i64 p->∀q:Int,some p=some q->gq .i64 q:=fun hp q h=>by simp only [ah] at h; exact h▸hp
 have hr1:r.l.length<=n+1:=J
 have Rx:v.l.length<=n+1:=J
 have w:=@qj
 have sn: ∀{l:List D} {t:Int},(∀x∈l,∃n,x= .i n/\gq .i64 n)->gq .i64 t->∀x∈l++ [.i t],∃n,x= .i n/\gq .i64 n:=fun h ht x hx=>by
  grind
 have r5:Wd (.sl 0) (dL (r.l++ [.i th])):=vJ (sn (su T.hr) ht) ad (by simp; omega);have l5:(dL (r.l++ [.i th])).l.length<=n+1:=by rw [bJ]; simp; omega
 have r20:Wd (.sl 0) (dL (v.l++ [.i arg])):=vJ (sn (su T.hv) ha) ad (by simp; omega);have l20:(dL (v.l++ [.i arg])).l.length<=n+1:=by rw [bJ]; simp; omega
 have r12:Wd (.sl 0) (dL (wo th r.l++ [.i th])):=vJ (sn (fun x hx=>(su T.hr) x (am1.1 hx).1) ht) ad (by have:=VG th r.l; simp; omega);have l12:(dL (wo th r.l++ [.i th])).l.length<=n+1:=by have:=VG th r.l; rw [bJ]; simp; omega
 have r6: ∀k,Wd (.sl 0) (eY (.i 2) (r.l.take k++r.l.drop (k+1))):=fun k=>Cw (fun x hx=>by
  rcases amW.1 hx with hx|hx
  ·exact (su T.hr) x (amV hx)
  ·exact (su T.hr) x (bu hx)) (by simp only [aT,a8,amU]; omega)
 have l6: ∀k,(eY (.i 2) (r.l.take k++r.l.drop (k+1))).l.length<=n+1:=fun k=>by rw [gw]; simp only [aT,a8,amU]; omega
 have r21:Wd (.sl 0) (eY v (v.l.drop 1)):=Cw (fun x hx=>(su T.hv) x (bu hx)) (by simp; omega);have l21:(eY v (v.l.drop 1)).l.length<=n+1:=by rw [gw]; simp; omega
 have r13:Wd (.sl 0) (eY r (r.l.drop 1)):=Cw (fun x hx=>(su T.hr) x (bu hx)) (by simp; omega);have l13:(eY r (r.l.drop 1)).l.length<=n+1:=by rw [gw]; simp; omega
 have r14:Wd (.sl 0) (.i 1):=.nil 0;have l14:(D.i 1).l.length<=n+1:=by simp [D.l]
 unfold act
 repeat' refine FF.ite ?_ ?_
 all_goals first
  |trivial
  |exact⟨by first |exact T.ho|exact ht|exact hm,by first |exact T.hc|exact w _|exact ha|exact hz,by first |exact T.hd|exact .inr rfl,by first |exact T.hg|exact w _,by first |exact T.hr|exact r5|exact r6 _|exact r12|exact r13|exact r14,by first |exact hr1|exact l5|exact l6 _|exact l12|exact l13|exact l14,by first |exact T.hv|exact r20|exact r21,by first |exact Rx|exact l20|exact l21,by first |exact e1|exact e2 hm|exact e2 ht,by first |exact .inl rfl|exact .inr rfl⟩
theorem UO (h12:op≠12) (h24:op≠24):NoM (act M mo th op arg tries o c dn g r v):=by
 unfold act;rw [af h12,af h24]
 repeat' refine NoM.ite ?_ ?_
 all_goals first
  |exact rfl
  |trivial
end
def isN (ys:List Int):Prop:= ∃v:Int,ys= [v]/\gq .i64 v
theorem Ye:isN [0]:=⟨0,rfl,by constructor<;>omega⟩
theorem Yd:isN [1]:=⟨1,rfl,by constructor<;>omega⟩
theorem aco (z:Int):isN [IntKind.i64.wrap z]:=⟨_,rfl,qj z⟩
theorem Dx: ∀{d x:D},x∈d.l->SizeOf.sizeOf x<SizeOf.sizeOf d
 | .i _,x,h=>by simp [D.l] at h
 | .p a b,x,h=>by
   simp only [D.l,ax] at h;rcases h with rfl|h
   ·grind
   ·have:=Dx (d:=b) h
    grind
def A? (l:List D):Prop:= ∀y∈l,gq .i64 (FY y).n
theorem XI:A? []:=fun y h=>by simp at h
theorem yV: ∀{l:List D} {k v:D},A? l->gq .i64 v.n->A? (j8 l k v)
 |[],k,v,_,hv=>by intro y hy;simp only [j8,ax,amY,or_false] at hy;subst hy;exact hv
 |d::l,k,v,Y,hv=>by
  intro y hy;simp only [j8] at hy;split at hy
  ·simp only [ax] at hy;rcases hy with rfl|hy
   ·exact hv
   ·exact Y y (by simp [hy])
  ·simp only [ax] at hy;rcases hy with rfl|hy
   ·exact Y _ ad
   ·exact yV (fun z hz=>Y z (by simp [hz])) hv y hy
theorem K7: ∀{l:List D} {k:D},A? l->gq .i64 ((gf l k).getD (.i 0)).n
 |[],k,_=>by constructor<;>simp [gf,D.n]
 |d::l,k,Y=>by
  simp only [gf];split
  ·exact Y d ad
  ·exact K7 fun y hy=>Y y (by simp [hy])
theorem aaq {l:List D} {k:D} (h:A? l):isN [((gf l k).getD (.i 0)).n]:=⟨_,rfl,K7 h⟩
def Ints (d:D):Prop:= ∀x∈d.l,gq .i64 x.n
theorem ints_at {d:D} (h:Ints d) {i:Int} (h0: ¬i<0) (U:i<(d.l.length:Int)):gq .i64 (d.at i).n:=by obtain⟨k,rfl⟩ : ∃k:Nat,i=(k:Int):=⟨i.toNat,J⟩;rw [bX (by omega:k<d.l.length)];exact h _ (az _)
set_option maxHeartbeats 4000000 in
theorem L2: ∀(N:Nat) (kids:D),SizeOf.sizeOf kids<=N->Wd (.sl 6) kids->∀(k n:Int) (s loc:D),gq .i64 n->Ints loc->dC 1950 [k,enc s,n,enc kids,enc loc] isN
 |0,kids,hN,_,_,_,_,_,_,_=>by exfalso;cases kids<;>simp at hN
 |N+1,kids,hN,hk,k,n,s,loc,hn,hi=>by
  have sub: ∀i:Nat,∃v:Int,gq .i64 v/\(i<kids.l.length->L 1950 [((kids.at (i:Int)).hd 0).n,enc ((kids.at (i:Int)).hd 1),((kids.at (i:Int)).hd 2).n,enc ((kids.at (i:Int)).hd 3),enc loc]=some [v]):=by
   intro i;by_cases dX:i<kids.l.length
   ·obtain⟨k',s',n',ks',he,_,_,hn',Z⟩:=wi hk dX
    have gT:SizeOf.sizeOf ks'<SizeOf.sizeOf kids.l[i]:=by rw [he];exact Dx (by rw [bJ]; simp)
    have amD:=Dx (az dX);obtain⟨ys,hL,v,rfl,hv⟩:=L2 N ks' J Z k' n' s' loc hn' hi;refine⟨v,hv,fun _=>?_⟩;rw [bX dX,he];simp only [zg,aC];exact hL
   grind
  obtain⟨v0,hv0,h0⟩:=sub 0;obtain⟨v1,Rx,U⟩:=sub 1;by_cases l1:(kids.l.length:Int)=1
  ·have h0:=h0 J;simp only [amX] at h0;refine dC.of ?_;rw [R6];simp only [P2,zz,l1,h0]
   repeat' first |exact .out ⟨_,rfl,hn⟩|exact .out Ye|exact .out Yd|exact .out (aco _)|exact .out ⟨_,rfl,ints_at hi ‹_› ‹_›⟩|refine .ite (fun _=>?_) (fun _=>?_)
  ·by_cases l2:(kids.l.length:Int)=2
   ·have h0:=h0 J;have U:=U J;simp only [amX,bk] at h0 U;refine dC.of ?_;rw [R6];simp only [P2,zz,l1,l2,h0,U]
    repeat' first |exact .out ⟨_,rfl,hn⟩|exact .out Ye|exact .out Yd|exact .out (aco _)|exact .out ⟨_,rfl,ints_at hi ‹_› ‹_›⟩|(simp only [bJ]; exact .out (aaq (yV (yV (yV XI (qj _)) (qj _)) (qj _))))|refine .ite (fun _=>?_) (fun _=>?_)
   ·refine dC.of ?_;rw [R6];simp only [P2,zz,l1,l2]
    repeat' first |exact .out ⟨_,rfl,hn⟩|exact .out Ye|exact .out Yd|exact .out ⟨_,rfl,ints_at hi ‹_› ‹_›⟩|refine .ite (fun _=>?_) (fun _=>?_)
structure Kt (x:D) (a:Int) (lc:D) (w o g tr:Int):Prop where
 is:x=dL [.i a,lc,.i w,.i o,.i g,.i tr]
 ha:gq .i64 a
 Y:Wd (.sl 0) lc
 hw:gq .u8 w
 ho:gq .i64 o
 hg:gq .i64 g
 ht:gq .i64 tr
theorem gY {d:D} (h:Wd (.sl 8) d): ∀x∈d.l,∃a lc w o g tr,Kt x a lc w o g tr:=by intro x hx;obtain⟨r,rfl,Y,hc⟩:=h.elN (cs:=[.int .i64,.sl 0,.int .u8,.int .i64,.int .i64,.int .i64]) rfl x hx;obtain⟨a,b,c,d,e,f,rfl⟩:=six Y;obtain⟨a,rfl,ha⟩:=(hc 0 _ _ rfl rfl).i;obtain⟨w,rfl,hw⟩:=(hc 2 _ _ rfl rfl).i;obtain⟨o,rfl,ho⟩:=(hc 3 _ _ rfl rfl).i;obtain⟨g,rfl,hg⟩:=(hc 4 _ _ rfl rfl).i;obtain⟨t,rfl,ht⟩:=(hc 5 _ _ rfl rfl).i;exact⟨a,b,w,o,g,t,rfl,ha,hc 1 _ _ rfl rfl,hw,ho,hg,ht⟩
structure Tk (d:D):Prop where
 wd:Wd (.sl 8) d
 sh:d=dL d.l
 l7:d.l.length<=2199023255500
theorem F6 {d:D} (h:Wd (.sl 8) d) (hn:0<d.l.length):Tk d:=by
 refine⟨h,?_,?_⟩
 ·rcases h.sh with rfl|rfl|⟨U,_⟩
  ·simp [D.l] at hn
  ·simp [D.l] at hn
  grind
 ·have hr:=h.room;have h3:pW 8=64:=rfl
  grind
theorem tL (a b c d e f x:D):fC [a,b,c,d,e,f] 1 x= [a,x,c,d,e,f]:=rfl
theorem bC (j:Nat) (xs:List Int):fin L (.jump j xs)=L j xs:=rfl
theorem bR (ys:List Int):fin L (.out ys)=some ys:=rfl
def wP (lc:D):Int:=if 0<lc.l.length then 3 else 4
theorem Ft {lc:D} (h:(0:Int)<(lc.l.length:Int)):wP lc=3:=ag J
theorem JU (d:D) (h:Th d) (x0:Int) (k:D): ∀(j i:Nat),i+j=d.l.length->L 9051 [x0,(d.l.length:Int),(i:Int),enc d,enc k]=L 9060 [x0,(k.l.length:Int),0,enc d,enc k]
 |0,i,hi=>by
  have c1: ¬(i:Int)<(d.l.length:Int):=J
  rw [bL,Zi];simp only [V8,zz,c1,bC,amX]
 |j+1,i,hi=>by
  have Y:=h.l7;have dX:i<d.l.length:=J
  have c1:(i:Int)<(d.l.length:Int):=J
  have c2: ¬((i:Int)<0):=J
  have w:=bS (n:=i) J;have ih:=JU d h x0 k j (i+1) J;obtain⟨o,c,dn,g,r,v,he,_,_,_,_,hr,hv⟩:=h.wd.mN _ (az dX);have hs:=eS h.sh dX;rw [he] at hs;rw [bL,Zi];rcases cF hr with rfl|rfl|⟨r1,r2⟩ <;>rcases cF hv with rfl|rfl|⟨v1,v2⟩
  all_goals
   simp only [V8,zz,c1,c2,w,bX dX,he,fm,bJ,aF,aK,FO,FN,hs,iN,jv,qe,jr]
   try simp only [r1,r2,zz]
   try simp only [v1,v2,zz]
   try simp only [bC]
   exact ih
theorem Sj (d:D) (h:Th d) (x0:Int): ∀(j i:Nat),i+j=d.l.length->L 9052 [x0,(d.l.length:Int),(i:Int),enc d]=L 9061 [x0,enc d]
 |0,i,hi=>by
  have c1: ¬(i:Int)<(d.l.length:Int):=J
  rw [bL,Zh];simp only [V7,zz,c1,bC,amX]
 |j+1,i,hi=>by
  have Y:=h.l7;have dX:i<d.l.length:=J
  have c1:(i:Int)<(d.l.length:Int):=J
  have c2: ¬((i:Int)<0):=J
  have w:=bS (n:=i) J;have ih:=Sj d h x0 j (i+1) J;obtain⟨o,c,dn,g,r,v,he,_,_,_,_,hr,hv⟩:=h.wd.mN _ (az dX);have hs:=eS h.sh dX;rw [he] at hs;rw [bL,Zh];rcases cF hr with rfl|rfl|⟨r1,r2⟩ <;>rcases cF hv with rfl|rfl|⟨v1,v2⟩
  all_goals
   simp only [V7,zz,c1,c2,w,bX dX,he,fm,bJ,aF,aK,FO,FN,hs,iN,jv,qe,jr]
   try simp only [r1,r2,zz]
   try simp only [v1,v2,zz]
   try simp only [bC]
   exact ih
theorem Si (d:D) (h:Th d) (x0:Int): ∀(j i:Nat),i+j=d.l.length->L 9053 [x0,(d.l.length:Int),(i:Int),enc d]=L 9062 [x0,enc d]
 |0,i,hi=>by
  have c1: ¬(i:Int)<(d.l.length:Int):=J
  rw [bL,Zg];simp only [V6,zz,c1,bC,amX]
 |j+1,i,hi=>by
  have Y:=h.l7;have dX:i<d.l.length:=J
  have c1:(i:Int)<(d.l.length:Int):=J
  have c2: ¬((i:Int)<0):=J
  have w:=bS (n:=i) J;have ih:=Si d h x0 j (i+1) J;obtain⟨o,c,dn,g,r,v,he,_,_,_,_,hr,hv⟩:=h.wd.mN _ (az dX);have hs:=eS h.sh dX;rw [he] at hs;rw [bL,Zg];rcases cF hr with rfl|rfl|⟨r1,r2⟩ <;>rcases cF hv with rfl|rfl|⟨v1,v2⟩
  all_goals
   simp only [V6,zz,c1,c2,w,bX dX,he,fm,bJ,aF,aK,FO,FN,hs,iN,jv,qe,jr]
   try simp only [r1,r2,zz]
   try simp only [v1,v2,zz]
   try simp only [bC]
   exact ih
theorem Ss (k:D) (h:Tk k) (x0:Int): ∀(j i:Nat),(hx:x0<0\/(k.l.length:Int)<=x0)->i+j=k.l.length->L 9066 [x0,(k.l.length:Int),(i:Int),enc k]=some [0,x0,enc (.i 2),enc k]
 |0,i,hx,hi=>by
  have c1: ¬(i:Int)<(k.l.length:Int):=J
  rw [bL,Mi];by_cases c0:(i:Int)=x0
  ·subst c0;simp only [Bn,zz,c1,bR]
  ·simp only [Bn,zz,c0,c1,bR]
 |j+1,i,hx,hi=>by
  have Y:=h.l7;have dX:i<k.l.length:=J
  have c1:(i:Int)<(k.l.length:Int):=J
  have c2: ¬((i:Int)<0):=J
  have c0: ¬((i:Int)=x0):=J
  have w:=bS (n:=i) J;have ih:=Ss k h x0 j (i+1) hx J;obtain⟨a,lc,w',o,g,tr,T⟩:=gY h.wd _ (az dX);have hs:=eS h.sh dX;rw [T.is] at hs;rw [bL,Mi];rcases cF T.Y with rfl|rfl|⟨r1,r2⟩
  all_goals
   simp only [Bn,zz,c0,c1,c2,w,bX dX,T.is,fm,bJ,aF,aK,tL,hs,iN,jv,qe,jr]
   try simp only [r1,r2,zz]
   try simp only [bC]
   exact ih
theorem Sv (k:D) (h:Tk k) (x0:Int) (s:D): ∀(j i:Nat),(hx:x0<0\/(k.l.length:Int)<=x0)->i+j=k.l.length->L 9060 [x0,(k.l.length:Int),(i:Int),enc s,enc k]=some [0,x0,enc s,enc k]
 |0,i,hx,hi=>by
  have c1: ¬(i:Int)<(k.l.length:Int):=J
  rw [bL,Mk];by_cases c0:(i:Int)=x0
  ·subst c0;simp only [Bp,zz,c1,bR]
  ·simp only [Bp,zz,c0,c1,bR]
 |j+1,i,hx,hi=>by
  have Y:=h.l7;have dX:i<k.l.length:=J
  have c1:(i:Int)<(k.l.length:Int):=J
  have c2: ¬((i:Int)<0):=J
  have c0: ¬((i:Int)=x0):=J
  have w:=bS (n:=i) J;have ih:=Sv k h x0 s j (i+1) hx J;obtain⟨a,lc,w',o,g,tr,T⟩:=gY h.wd _ (az dX);have hs:=eS h.sh dX;rw [T.is] at hs;rw [bL,Mk];rcases cF T.Y with rfl|rfl|⟨r1,r2⟩
  all_goals
   simp only [Bp,zz,c0,c1,c2,w,bX dX,T.is,fm,bJ,aF,aK,tL,hs,iN,jv,qe,jr]
   try simp only [r1,r2,zz]
   try simp only [bC]
   exact ih
theorem Su (k:D) (h:Tk k) (x0:Int): ∀(j i:Nat),(hx:x0<0\/(k.l.length:Int)<=x0)->i+j=k.l.length->L 9063 [x0,(k.l.length:Int),(i:Int),enc k]=some [0,x0,enc (.i 1),enc k]
 |0,i,hx,hi=>by
  have c1: ¬(i:Int)<(k.l.length:Int):=J
  rw [bL,Mj];by_cases c0:(i:Int)=x0
  ·subst c0;simp only [Bo,zz,c1,bR]
  ·simp only [Bo,zz,c0,c1,bR]
 |j+1,i,hx,hi=>by
  have Y:=h.l7;have dX:i<k.l.length:=J
  have c1:(i:Int)<(k.l.length:Int):=J
  have c2: ¬((i:Int)<0):=J
  have c0: ¬((i:Int)=x0):=J
  have w:=bS (n:=i) J;have ih:=Su k h x0 j (i+1) hx J;obtain⟨a,lc,w',o,g,tr,T⟩:=gY h.wd _ (az dX);have hs:=eS h.sh dX;rw [T.is] at hs;rw [bL,Mj];rcases cF T.Y with rfl|rfl|⟨r1,r2⟩
  all_goals
   simp only [Bo,zz,c0,c1,c2,w,bX dX,T.is,fm,bJ,aF,aK,tL,hs,iN,jv,qe,jr]
   try simp only [r1,r2,zz]
   try simp only [bC]
   exact ih
theorem Sr (k:D) (h:Tk k) (gi:Nat) (x4 x5 x6 x7 x8 x9:Int) (s:D): ∀(j i:Nat),gi<i->i+j=k.l.length->L 9069 [(gi:Int),(k.l.length:Int),(i:Int),enc s,enc k,x4,x5,x6,x7,x8,x9]=some [3,(gi:Int),enc s,enc k,x4,x5,x6,x7,x8,x9]
 |0,i,hg,hi=>by
  have c1: ¬(i:Int)<(k.l.length:Int):=J
  have c0: ¬((i:Int)=(gi:Int)):=J
  rw [bL,Zf];simp only [V5,zz,c0,c1,bR]
 |j+1,i,hg,hi=>by
  have Y:=h.l7;have dX:i<k.l.length:=J
  have c1:(i:Int)<(k.l.length:Int):=J
  have c2: ¬((i:Int)<0):=J
  have c0: ¬((i:Int)=(gi:Int)):=J
  have w:=bS (n:=i) J;have ih:=Sr k h gi x4 x5 x6 x7 x8 x9 s j (i+1) J J;obtain⟨a,lc,w',o,g,tr,T⟩:=gY h.wd _ (az dX);have hs:=eS h.sh dX;rw [T.is] at hs;rw [bL,Zf];rcases cF T.Y with rfl|rfl|⟨r1,r2⟩
  all_goals
   simp only [V5,zz,c0,c1,c2,w,bX dX,T.is,fm,bJ,aF,aK,tL,hs,iN,jv,qe,jr]
   try simp only [r1,r2,zz]
   try simp only [bC]
   exact ih
theorem JX (k:D) (h:Tk k) (gi:Nat) (x4 x5 x6 x7 x8 x9:Int) (s:D): ∀(j i:Nat),gi<i->i+j=k.l.length->L 9070 [(gi:Int),(k.l.length:Int),(i:Int),enc s,enc k,x4,x5,x6,x7,x8,x9]=some [4,(gi:Int),enc s,enc k,x4,x5,x6,x7,x8,x9]
 |0,i,hg,hi=>by
  have c1: ¬(i:Int)<(k.l.length:Int):=J
  have c0: ¬((i:Int)=(gi:Int)):=J
  rw [bL,Ze];simp only [V4,zz,c0,c1,bR]
 |j+1,i,hg,hi=>by
  have Y:=h.l7;have dX:i<k.l.length:=J
  have c1:(i:Int)<(k.l.length:Int):=J
  have c2: ¬((i:Int)<0):=J
  have c0: ¬((i:Int)=(gi:Int)):=J
  have w:=bS (n:=i) J;have ih:=JX k h gi x4 x5 x6 x7 x8 x9 s j (i+1) J J;obtain⟨a,lc,w',o,g,tr,T⟩:=gY h.wd _ (az dX);have hs:=eS h.sh dX;rw [T.is] at hs;rw [bL,Ze];rcases cF T.Y with rfl|rfl|⟨r1,r2⟩
  all_goals
   simp only [V4,zz,c0,c1,c2,w,bX dX,T.is,fm,bJ,aF,aK,tL,hs,iN,jv,qe,jr]
   try simp only [r1,r2,zz]
   try simp only [bC]
   exact ih
theorem Sq (k:D) (h:Tk k) (gi:Nat) (x4 x5 x6 x7 x8 x9:Int): ∀(j i:Nat),gi<i->i+j=k.l.length->L 9071 [(gi:Int),(k.l.length:Int),(i:Int),enc k,x4,x5,x6,x7,x8,x9]=some [3,(gi:Int),enc (.i 1),enc k,x4,x5,x6,x7,x8,x9]
 |0,i,hg,hi=>by
  have c1: ¬(i:Int)<(k.l.length:Int):=J
  have c0: ¬((i:Int)=(gi:Int)):=J
  rw [bL,Zd];simp only [V3,zz,c0,c1,bR]
 |j+1,i,hg,hi=>by
  have Y:=h.l7;have dX:i<k.l.length:=J
  have c1:(i:Int)<(k.l.length:Int):=J
  have c2: ¬((i:Int)<0):=J
  have c0: ¬((i:Int)=(gi:Int)):=J
  have w:=bS (n:=i) J;have ih:=Sq k h gi x4 x5 x6 x7 x8 x9 j (i+1) J J;obtain⟨a,lc,w',o,g,tr,T⟩:=gY h.wd _ (az dX);have hs:=eS h.sh dX;rw [T.is] at hs;rw [bL,Zd];rcases cF T.Y with rfl|rfl|⟨r1,r2⟩
  all_goals
   simp only [V3,zz,c0,c1,c2,w,bX dX,T.is,fm,bJ,aF,aK,tL,hs,iN,jv,qe,jr]
   try simp only [r1,r2,zz]
   try simp only [bC]
   exact ih
theorem JW (k:D) (h:Tk k) (gi:Nat) (x4 x5 x6 x7 x8 x9:Int): ∀(j i:Nat),gi<i->i+j=k.l.length->L 9072 [(gi:Int),(k.l.length:Int),(i:Int),enc k,x4,x5,x6,x7,x8,x9]=some [4,(gi:Int),enc (.i 1),enc k,x4,x5,x6,x7,x8,x9]
 |0,i,hg,hi=>by
  have c1: ¬(i:Int)<(k.l.length:Int):=J
  have c0: ¬((i:Int)=(gi:Int)):=J
  rw [bL,Zc];simp only [V2,zz,c0,c1,bR]
 |j+1,i,hg,hi=>by
  have Y:=h.l7;have dX:i<k.l.length:=J
  have c1:(i:Int)<(k.l.length:Int):=J
  have c2: ¬((i:Int)<0):=J
  have c0: ¬((i:Int)=(gi:Int)):=J
  have w:=bS (n:=i) J;have ih:=JW k h gi x4 x5 x6 x7 x8 x9 j (i+1) J J;obtain⟨a,lc,w',o,g,tr,T⟩:=gY h.wd _ (az dX);have hs:=eS h.sh dX;rw [T.is] at hs;rw [bL,Zc];rcases cF T.Y with rfl|rfl|⟨r1,r2⟩
  all_goals
   simp only [V2,zz,c0,c1,c2,w,bX dX,T.is,fm,bJ,aF,aK,tL,hs,iN,jv,qe,jr]
   try simp only [r1,r2,zz]
   try simp only [bC]
   exact ih
theorem Sp (k:D) (h:Tk k) (gi:Nat) (x4 x5 x6 x7 x8 x9:Int): ∀(j i:Nat),gi<i->i+j=k.l.length->L 9073 [(gi:Int),(k.l.length:Int),(i:Int),enc k,x4,x5,x6,x7,x8,x9]=some [3,(gi:Int),enc (.i 2),enc k,x4,x5,x6,x7,x8,x9]
 |0,i,hg,hi=>by
  have c1: ¬(i:Int)<(k.l.length:Int):=J
  have c0: ¬((i:Int)=(gi:Int)):=J
  rw [bL,Zb];simp only [V1,zz,c0,c1,bR]
 |j+1,i,hg,hi=>by
  have Y:=h.l7;have dX:i<k.l.length:=J
  have c1:(i:Int)<(k.l.length:Int):=J
  have c2: ¬((i:Int)<0):=J
  have c0: ¬((i:Int)=(gi:Int)):=J
  have w:=bS (n:=i) J;have ih:=Sp k h gi x4 x5 x6 x7 x8 x9 j (i+1) J J;obtain⟨a,lc,w',o,g,tr,T⟩:=gY h.wd _ (az dX);have hs:=eS h.sh dX;rw [T.is] at hs;rw [bL,Zb];rcases cF T.Y with rfl|rfl|⟨r1,r2⟩
  all_goals
   simp only [V1,zz,c0,c1,c2,w,bX dX,T.is,fm,bJ,aF,aK,tL,hs,iN,jv,qe,jr]
   try simp only [r1,r2,zz]
   try simp only [bC]
   exact ih
theorem JV (k:D) (h:Tk k) (gi:Nat) (x4 x5 x6 x7 x8 x9:Int): ∀(j i:Nat),gi<i->i+j=k.l.length->L 9074 [(gi:Int),(k.l.length:Int),(i:Int),enc k,x4,x5,x6,x7,x8,x9]=some [4,(gi:Int),enc (.i 2),enc k,x4,x5,x6,x7,x8,x9]
 |0,i,hg,hi=>by
  have c1: ¬(i:Int)<(k.l.length:Int):=J
  have c0: ¬((i:Int)=(gi:Int)):=J
  rw [bL,Za];simp only [V0,zz,c0,c1,bR]
 |j+1,i,hg,hi=>by
  have Y:=h.l7;have dX:i<k.l.length:=J
  have c1:(i:Int)<(k.l.length:Int):=J
  have c2: ¬((i:Int)<0):=J
  have c0: ¬((i:Int)=(gi:Int)):=J
  have w:=bS (n:=i) J;have ih:=JV k h gi x4 x5 x6 x7 x8 x9 j (i+1) J J;obtain⟨a,lc,w',o,g,tr,T⟩:=gY h.wd _ (az dX);have hs:=eS h.sh dX;rw [T.is] at hs;rw [bL,Za];rcases cF T.Y with rfl|rfl|⟨r1,r2⟩
  all_goals
   simp only [V0,zz,c0,c1,c2,w,bX dX,T.is,fm,bJ,aF,aK,tL,hs,iN,jv,qe,jr]
   try simp only [r1,r2,zz]
   try simp only [bC]
   exact ih
theorem Sn (k:D) (h:Tk k) (s:D) (gi:Nat) (w8:gi<k.l.length) (a:Int) (lc:D) (w o g tr:Int) (T:Kt k.l[gi] a lc w o g tr): ∀(j i:Nat),i+j=gi->L 9060 [(gi:Int),(k.l.length:Int),(i:Int),enc s,enc k]=some [wP lc,(gi:Int),enc s,enc k,a,enc lc,w,o,g,tr]
 |0,i,hi=>by
  have Y:=h.l7;have he:i=gi:=J
  subst he;have c1:(i:Int)<(k.l.length:Int):=J
  have c2: ¬((i:Int)<0):=J
  have w':=bS (n:=i) J;rw [bL,Mk];rcases cF T.Y with rfl|rfl|⟨r1,r2⟩
  ·have ih:=JX k h i a (enc (.i 1)) w o g tr s (k.l.length-(i+1)) (i+1) J J;simp only [Bp,zz,c1,c2,w',bX w8,T.is,fm,bJ,aF,aK,anQ,anv,iN,jv,qe,jr,bC];exact ih
  ·have ih:=JX k h i a (enc (.i 2)) w o g tr s (k.l.length-(i+1)) (i+1) J J;simp only [Bp,zz,c1,c2,w',bX w8,T.is,fm,bJ,aF,aK,anQ,anv,iN,jv,qe,jr,bC];exact ih
  ·have ih:=Sr k h i a (enc lc) w o g tr s (k.l.length-(i+1)) (i+1) J J;simp only [Bp,zz,c1,c2,w',bX w8,T.is,fm,bJ,aF,aK,iN,jv,qe,jr];simp only [r1,r2,zz,bC];rw [Ft r1];exact ih
 |j+1,i,hi=>by
  have Y:=h.l7;have dX:i<k.l.length:=J
  have c1:(i:Int)<(k.l.length:Int):=J
  have c2: ¬((i:Int)<0):=J
  have c0: ¬((i:Int)=(gi:Int)):=J
  have w1:=bS (n:=i) J;have ih:=Sn k h s gi w8 a lc w o g tr T j (i+1) J;obtain⟨a',lc',w',o',g',tr',T'⟩:=gY h.wd _ (az dX);have hs:=eS h.sh dX;rw [T'.is] at hs;rw [bL,Mk];rcases cF T'.Y with rfl|rfl|⟨r1,r2⟩
  all_goals
   simp only [Bp,zz,c0,c1,c2,w1,bX dX,T'.is,fm,bJ,aF,aK,tL,hs,iN,jv,qe,jr]
   try simp only [r1,r2,zz]
   try simp only [bC]
   exact ih
theorem Sm (k:D) (h:Tk k) (gi:Nat) (w8:gi<k.l.length) (a:Int) (lc:D) (w o g tr:Int) (T:Kt k.l[gi] a lc w o g tr): ∀(j i:Nat),i+j=gi->L 9063 [(gi:Int),(k.l.length:Int),(i:Int),enc k]=some [wP lc,(gi:Int),enc (.i 1),enc k,a,enc lc,w,o,g,tr]
 |0,i,hi=>by
  have Y:=h.l7;have he:i=gi:=J
  subst he;have c1:(i:Int)<(k.l.length:Int):=J
  have c2: ¬((i:Int)<0):=J
  have w':=bS (n:=i) J;rw [bL,Mj];rcases cF T.Y with rfl|rfl|⟨r1,r2⟩
  ·have ih:=JW k h i a (enc (.i 1)) w o g tr (k.l.length-(i+1)) (i+1) J J;simp only [Bo,zz,c1,c2,w',bX w8,T.is,fm,bJ,aF,aK,anQ,anv,iN,jv,qe,jr,bC];exact ih
  ·have ih:=JW k h i a (enc (.i 2)) w o g tr (k.l.length-(i+1)) (i+1) J J;simp only [Bo,zz,c1,c2,w',bX w8,T.is,fm,bJ,aF,aK,anQ,anv,iN,jv,qe,jr,bC];exact ih
  ·have ih:=Sq k h i a (enc lc) w o g tr (k.l.length-(i+1)) (i+1) J J;simp only [Bo,zz,c1,c2,w',bX w8,T.is,fm,bJ,aF,aK,iN,jv,qe,jr];simp only [r1,r2,zz,bC];rw [Ft r1];exact ih
 |j+1,i,hi=>by
  have Y:=h.l7;have dX:i<k.l.length:=J
  have c1:(i:Int)<(k.l.length:Int):=J
  have c2: ¬((i:Int)<0):=J
  have c0: ¬((i:Int)=(gi:Int)):=J
  have w1:=bS (n:=i) J;have ih:=Sm k h gi w8 a lc w o g tr T j (i+1) J;obtain⟨a',lc',w',o',g',tr',T'⟩:=gY h.wd _ (az dX);have hs:=eS h.sh dX;rw [T'.is] at hs;rw [bL,Mj];rcases cF T'.Y with rfl|rfl|⟨r1,r2⟩
  all_goals
   simp only [Bo,zz,c0,c1,c2,w1,bX dX,T'.is,fm,bJ,aF,aK,tL,hs,iN,jv,qe,jr]
   try simp only [r1,r2,zz]
   try simp only [bC]
   exact ih
theorem Sl (k:D) (h:Tk k) (gi:Nat) (w8:gi<k.l.length) (a:Int) (lc:D) (w o g tr:Int) (T:Kt k.l[gi] a lc w o g tr): ∀(j i:Nat),i+j=gi->L 9066 [(gi:Int),(k.l.length:Int),(i:Int),enc k]=some [wP lc,(gi:Int),enc (.i 2),enc k,a,enc lc,w,o,g,tr]
 |0,i,hi=>by
  have Y:=h.l7;have he:i=gi:=J
  subst he;have c1:(i:Int)<(k.l.length:Int):=J
  have c2: ¬((i:Int)<0):=J
  have w':=bS (n:=i) J;rw [bL,Mi];rcases cF T.Y with rfl|rfl|⟨r1,r2⟩
  ·have ih:=JV k h i a (enc (.i 1)) w o g tr (k.l.length-(i+1)) (i+1) J J;simp only [Bn,zz,c1,c2,w',bX w8,T.is,fm,bJ,aF,aK,anQ,anv,iN,jv,qe,jr,bC];exact ih
  ·have ih:=JV k h i a (enc (.i 2)) w o g tr (k.l.length-(i+1)) (i+1) J J;simp only [Bn,zz,c1,c2,w',bX w8,T.is,fm,bJ,aF,aK,anQ,anv,iN,jv,qe,jr,bC];exact ih
  ·have ih:=Sp k h i a (enc lc) w o g tr (k.l.length-(i+1)) (i+1) J J;simp only [Bn,zz,c1,c2,w',bX w8,T.is,fm,bJ,aF,aK,iN,jv,qe,jr];simp only [r1,r2,zz,bC];rw [Ft r1];exact ih
 |j+1,i,hi=>by
  have Y:=h.l7;have dX:i<k.l.length:=J
  have c1:(i:Int)<(k.l.length:Int):=J
  have c2: ¬((i:Int)<0):=J
  have c0: ¬((i:Int)=(gi:Int)):=J
  have w1:=bS (n:=i) J;have ih:=Sl k h gi w8 a lc w o g tr T j (i+1) J;obtain⟨a',lc',w',o',g',tr',T'⟩:=gY h.wd _ (az dX);have hs:=eS h.sh dX;rw [T'.is] at hs;rw [bL,Mi];rcases cF T'.Y with rfl|rfl|⟨r1,r2⟩
  all_goals
   simp only [Bn,zz,c0,c1,c2,w1,bX dX,T'.is,fm,bJ,aF,aK,tL,hs,iN,jv,qe,jr]
   try simp only [r1,r2,zz]
   try simp only [bC]
   exact ih
structure Sk (s k:D):Prop where
 ws:Wd (.sl 7) s
 wk:Wd (.sl 8) k
theorem N0 {t:Nat} {d:D} (h:Wd (.sl t) d):d= .i 1\/d= .i 2\/0<d.l.length:=by
 rcases h.sh with U|U|⟨_,U⟩
 all_goals grind
theorem aaf (x0:Int) (s:D):L 9061 [x0,enc s]=some [1,x0,enc s]:=by rw [bL,acM];simp only [abC,zz];split<;>rfl
theorem aae (x0:Int) (s:D):L 9062 [x0,enc s]=some [2,x0,enc s]:=by rw [bL,acL];simp only [abB,zz];split<;>rfl
theorem D':((0:Int)<((D.i 2).l.length:Int))=False/\((0:Int)<((D.i 1).l.length:Int))=False/\(enc (.i 2)=enc (.i 1))=False:=by
 refine⟨by simp [D.l],by simp [D.l],?_⟩;simp only [eq_iff_iff,iff_false];intro h;have:=hU h
 grind
theorem YO (x0:Int) (k:D):L 9054 [x0,enc k]=L 9063 [x0,(k.l.length:Int),0,enc k]:=by rw [bL,acS];simp only [abE,zz,bC,bR]
theorem YN (x0:Int) (k:D):L 9057 [x0,enc k]=L 9066 [x0,(k.l.length:Int),0,enc k]:=by rw [bL,acP];simp only [abD,zz,bC,bR]
theorem afJ (x0:Int):L 9064 [x0]=some [1,x0,enc (.i 1)]:=by rw [bL,acK];simp only [abA,zz,bC,bR];split<;>rfl
theorem afN (x0:Int):L 9055 [x0]=some [1,x0,enc (.i 1)]:=by rw [bL,acR];exact afJ x0
theorem afI (x0:Int):L 9065 [x0]=some [2,x0,enc (.i 1)]:=by rw [bL,acJ];simp only [abz,zz,bC,bR];split<;>rfl
theorem afM (x0:Int):L 9056 [x0]=some [2,x0,enc (.i 1)]:=by rw [bL,acQ];exact afI x0
theorem afH (x0:Int):L 9067 [x0]=some [1,x0,enc (.i 2)]:=by rw [bL,acI];simp only [aby,zz,bC,bR];split<;>rfl
theorem afL (x0:Int):L 9058 [x0]=some [1,x0,enc (.i 2)]:=by rw [bL,acO];exact afH x0
theorem afG (x0:Int):L 9068 [x0]=some [2,x0,enc (.i 2)]:=by rw [bL,acH];simp only [abx,zz,bC,bR];split<;>rfl
theorem afK (x0:Int):L 9059 [x0]=some [2,x0,enc (.i 2)]:=by rw [bL,acN];exact afG x0
section
variable {s k:D} (h:Sk s k)
include h
theorem HT {gi:Nat} (w8:gi<k.l.length) {a:Int} {lc:D} {w o g tr:Int} (T:Kt k.l[gi] a lc w o g tr):L 9050 [(gi:Int),enc s,enc k]=some [wP lc,(gi:Int),enc s,enc k,a,enc lc,w,o,g,tr]:=by
 have hk:0<k.l.length:=J
 have hK:=F6 h.wk hk;have FR:=hK.l7;have c1':(0:Int)<(k.l.length:Int):=J
 have F?:(k.l.length:Int)<2199023255552:=J
 rw [bL,Zj];rcases N0 h.ws with rfl|rfl|hs
 ·simp only [rC,zz,D',c1',F?,bC];exact (YO _ k).trans (Sm k hK gi w8 a lc w o g tr T gi 0 J)
 ·simp only [rC,zz,D',c1',F?,bC];exact (YN _ k).trans (Sl k hK gi w8 a lc w o g tr T gi 0 J)
 ·have hT:=wS h.ws hs;have Y:=hT.l7;have c1:(0:Int)<(s.l.length:Int):=J
  have c2:(s.l.length:Int)<1759218604441:=J
  simp only [rC,zz,qe,c1,c2,c1',F?,bC];exact (JU s hT _ k s.l.length 0 J).trans (Sn k hK s gi w8 a lc w o g tr T gi 0 J)
theorem UL {x:Int} (hx:x<0\/(k.l.length:Int)<=x):L 9050 [x,enc s,enc k]=some [0,x,enc s,enc k]\/L 9050 [x,enc s,enc k]=some [1,x,enc s]/\k= .i 1\/L 9050 [x,enc s,enc k]=some [2,x,enc s]/\k= .i 2:=by
 rw [bL,Zj];rcases N0 h.ws with rfl|rfl|hs<;>rcases N0 h.wk with rfl|rfl|hk
 ·refine .inr (.inl ⟨?_,rfl⟩);simp only [rC,zz,D',bC];exact afN _
 ·refine .inr (.inr ⟨?_,rfl⟩);simp only [rC,zz,D',bC];exact afM _
 ·have hK:=F6 h.wk hk;have FR:=hK.l7;have c1':(0:Int)<(k.l.length:Int):=J
  have F?:(k.l.length:Int)<2199023255552:=J
  refine .inl ?_;simp only [rC,zz,D',c1',F?,bC];exact (YO _ k).trans (Su k hK _ k.l.length 0 hx J)
 ·refine .inr (.inl ⟨?_,rfl⟩);simp only [rC,zz,D',bC];exact afL _
 ·refine .inr (.inr ⟨?_,rfl⟩);simp only [rC,zz,D',bC];exact afK _
 ·have hK:=F6 h.wk hk;have FR:=hK.l7;have c1':(0:Int)<(k.l.length:Int):=J
  have F?:(k.l.length:Int)<2199023255552:=J
  refine .inl ?_;simp only [rC,zz,D',c1',F?,bC];exact (YN _ k).trans (Ss k hK _ k.l.length 0 hx J)
 ·have hT:=wS h.ws hs;have Y:=hT.l7;have c1:(0:Int)<(s.l.length:Int):=J
  have c2:(s.l.length:Int)<1759218604441:=J
  refine .inr (.inl ⟨?_,rfl⟩);simp only [rC,zz,D',c1,c2,bC];exact (Sj s hT _ s.l.length 0 J).trans (aaf _ s)
 ·have hT:=wS h.ws hs;have Y:=hT.l7;have c1:(0:Int)<(s.l.length:Int):=J
  have c2:(s.l.length:Int)<1759218604441:=J
  refine .inr (.inr ⟨?_,rfl⟩);simp only [rC,zz,D',c1,c2,bC];exact (Si s hT _ s.l.length 0 J).trans (aae _ s)
 ·have hT:=wS h.ws hs;have Y:=hT.l7;have c1:(0:Int)<(s.l.length:Int):=J
  have c2:(s.l.length:Int)<1759218604441:=J
  have hK:=F6 h.wk hk;have FR:=hK.l7;have c1':(0:Int)<(k.l.length:Int):=J
  have F?:(k.l.length:Int)<2199023255552:=J
  refine .inl ?_;simp only [rC,zz,qe,c1,c2,c1',F?,bC];exact (JU s hT _ k s.l.length 0 J).trans (Sv k hK _ s k.l.length 0 hx J)
end
def EqI (a b:D) (i:Nat):Prop:= ∀(k:Nat) (U:k<a.l.length) (Z:k<b.l.length),i<=k->(a.l[k]).n=(b.l[k]).n
theorem EqI.step {a b:D} {i:Nat} (U:i<a.l.length) (Z:i<b.l.length) (h:(a.l[i]).n=(b.l[i]).n):EqI a b i↔EqI a b (i+1):=by
 constructor
 ·intro q k x y z;exact q k x y J
 ·intro q k x y z;by_cases hk:k=i
  ·grind
  ·exact q k x y J
section
variable {a b:D} (hle:a.l.length=b.l.length) (hlen:a.l.length<=140737488351232)
include hle hlen
end
def adO (a b:D):Prop:=a.l.length=b.l.length/\EqI a b 0
structure amw (x y:D):Prop where
 o:(x.hd 0).n=(y.hd 0).n
 c:(x.hd 1).n=(y.hd 1).n
 d:(x.hd 2).n=0↔(y.hd 2).n=0
 g:(x.hd 3).n=(y.hd 3).n
 r:adO (x.hd 4) (y.hd 4)
 v:adO (x.hd 5) (y.hd 5)
theorem bits {p q:Int}:((¬(¬p=0/\¬q=0))/\¬(¬¬p=0/\¬¬q=0))↔¬(p=0↔q=0):=J
def V_ (s:D):Prop:= ∀x∈s.l,(x.hd 4).l.length<=140737488351232/\(x.hd 5).l.length<=140737488351232
section
variable {a b:D} (hle:a.l.length=b.l.length) (hlen:a.l.length<=140737488351232) (hr:V_ a)
include hle hlen hr
end
theorem UM {d0:D} (Y:d0.l.length<=64) (hn:0<d0.l.length):L 301 [enc d0,(d0.l.length:Int)]=some [enc (dL (d0.l.map jZ))]:=by
 have e0:=Fs d0 Y (d0.l.length-1) 1 [jZ (d0.l[0]'hn)] J rfl
 have e1:[jZ (d0.l[0]'hn)]++(d0.l.drop 1).map jZ=d0.l.map jZ:=by
  conv=>rhs; rw [<- am4 (l:=d0.l),bh hn]
  rfl
 rw [e1] at e0;have a0:d0.at 0=d0.l[0]'hn:=bX (i:=0) hn;have c1:(0:Int)<(d0.l.length:Int):=J
 have key: ∀q:Int,q=(if (((d0.l[0]'hn)).hd 0).n=3\/((d0.l[0]'hn).hd 0).n=9 then ((d0.l[0]'hn).hd 2).n else 0)->enc (dL [jZ (d0.l[0]'hn)])=enc (.p (.p (.i (-1)) (.p (.i q) (.p (.i 0) (.p (.i 0) (.p (.i 1) (.p (.i 1) (.i 0))))))) (.i 0)):=fun q hq=>by rw [hq]; rfl
 have k:ew (cT L (low [enc d0,(d0.l.length:Int)])) Ti= .jump 302 [enc (dL [jZ (d0.l[0]'hn)]),enc d0,(d0.l.length:Int),1]:=by
  by_cases h3:((d0.l[0]'hn).hd 0).n=3
  ·rw [key _ (by rw [ag (.inl h3)])];simp only [Ti,zz,c1,a0,mI,ay,h3,dL]
  ·by_cases h9:((d0.l[0]'hn).hd 0).n=9
   ·rw [key _ (by rw [ag (.inr h9)])];simp only [Ti,zz,c1,a0,mI,ay,af h3,ag h9,dL]
   ·rw [key 0 (by rw [af J])];simp only [Ti,zz,c1,a0,mI,ay,af h3,af h9,dL]
 rw [bL,agd];exact (congrArg (fin L) k).trans e0
theorem q! {d0 d1:D} (hc:L 450 [enc d0,enc d1]=some [0]) (Y:d0.l.length<=64) (hn:0<d0.l.length):L 300 [enc d0,enc d1]=some [enc (dL (d0.l.map jZ))]:=by
 have k:ew (cT L (low [enc d0,enc d1])) Q!= .jump 301 [enc d0,(d0.l.length:Int)]:=by refine ee [.eq (a0 450 [.dG 0,.dG 1]) (.lit 1),.eq (rr 450 [.dG 0,.dG 1] 0) (.lit 0)] [] (ju 301 [.dG 0,ln (.dG 0)]) (by simp only [zz,hc]) aa ?_;simp only [mu,List.map,bU,gN,Nat.reduceLT,bM,bN,bB]
 rw [bL,aaS];exact (congrArg (fin L) k).trans (UM Y hn)
theorem q_ {d0 d1:D} {c:Int} (hc:L 450 [enc d0,enc d1]=some [c]) (h:c≠0\/d0.l.length=0):L 300 [enc d0,enc d1]=some [enc (.i 1)]:=by
 by_cases h0:c=0
 ·subst h0;have hz:d0.l.length=0:=h.resolve_left (fun h=>h rfl)
  have k:ew (cT L (low [enc d0,enc d1])) Q!= .jump 301 [enc d0,0]:=by refine ee [.eq (a0 450 [.dG 0,.dG 1]) (.lit 1),.eq (rr 450 [.dG 0,.dG 1] 0) (.lit 0)] [] (ju 301 [.dG 0,ln (.dG 0)]) (by simp only [zz,hc]) aa ?_;simp only [mu,List.map,bU,gN,Nat.reduceLT,bM,bN,bB,hz];rfl
  have k1:ew (cT L (low [enc d0,0])) Ti= .out [enc (.i 1)]:=by refine ee [] [.lt (.lit 0) (.dG 1)] (ou [.ei (.i 1)]) (by simp only [zz]<;>omega) aa rfl
  rw [bL,aaS];refine (congrArg (fin L) k).trans ?_;show L 301 [enc d0,0]=_;rw [bL,agd];exact congrArg (fin L) k1
 ·have k:ew (cT L (low [enc d0,enc d1])) Q!= .out [enc (.i 1)]:=by
   refine ee [.eq (a0 450 [.dG 0,.dG 1]) (.lit 1)] [.eq (rr 450 [.dG 0,.dG 1] 0) (.lit 0)] (ou [.ei (.i 1)]) (by simp only [zz,hc]<;>omega) aa rfl
  rw [bL,aaS];exact congrArg (fin L) k
structure Gs (s:D) (n:Nat):Prop where
 wd:Wd (.sl 7) s
 rows: ∀x∈s.l,(x.hd 4).l.length<=n/\(x.hd 5).l.length<=n
theorem Gs.l7 {s:D} {n:Nat} (h:Gs s n) (hn:n<17592186044415):l7 s:=fun x hx=>by have:=h.rows x hx; omega
theorem Gs.mono {s:D} {n m:Nat} (h:Gs s n) (hm:n<=m):Gs s m:=⟨h.wd,fun x hx=>by have:=h.rows x hx; omega⟩
theorem Ap {l:List D} (h: ∀x∈l,vY x) (hn:l≠[]) (Y:l.length<=1759218604390):Wd (.sl 7) (dL l):=by
 have e:(l.map fun x=>x.l).map dL=l:=by
  rw [am7]
  conv=>rhs; rw [<- ano l]
  apply anH;intro x hx;obtain⟨o,c,d,g,r,v,rfl,_⟩:=h x hx;rfl
 rw [<- e];refine .many 7 [.int .i64,.int .i64,.bool,.int .i64,.sl 0,.sl 0] _ rfl (by simpa using hn) (by have:pW 7=80:=rfl; rw [this,aL]; omega) (fun r hr=>?_) fun r hr j d c U Z=>?_
 ·obtain⟨x,hx,rfl⟩:=aH.1 hr;obtain⟨o,c,d,g,r,v,rfl,_⟩:=h x hx;rfl
 ·obtain⟨x,hx,rfl⟩:=aH.1 hr;obtain⟨o,c',d',g,r,v,rfl,ho,hc,hd,hg,hr,hv⟩:=h x hx;rw [bJ] at U
  match j with
  |0=>simp at U Z; subst U Z; exact .int _ _ ho
  |1=>simp at U Z; subst U Z; exact .int _ _ hc
  |2=>
   simp at U Z; subst U Z;rcases hd with rfl|rfl
   ·exact .bool false
   ·exact .bool true
  |3=>simp at U Z; subst U Z; exact .int _ _ hg
  |4=>simp at U Z; subst U Z; exact hr
  |5=>simp at U Z; subst U Z; exact hv
  |j+6=>simp at U
theorem Tg.mN {x:D} {o c dn g:Int} {r v:D} (T:Tg x o c dn g r v):vY x:=⟨o,c,dn,g,r,v,T.is,T.ho,T.hc,T.hd,T.hg,T.hr,T.hv⟩
theorem rR {l:List D} {z:Int} {y x:D} (h:x∈fC l z y):x∈l\/x=y:=by
 unfold fC at h
 grind
theorem YS {l:List D} {k:Nat} {y:D} (h:k<l.length):(fC l (k:Int) y)[k]?=some y:=by rw [pe,List.getElem?_set,ag rfl,ag h]
theorem OC {s:D} {n:Nat} (G:Gs s n) {z:Int} {y:D} (hy:vY y) (h4:(y.hd 4).l.length<=n) (h5:(y.hd 5).l.length<=n) (hn:0<s.l.length):Gs (dL (fC s.l z y)) n:=by
 have ht:=wS G.wd hn;refine⟨Ap (fun x hx=>?_) (fun he=>?_) (by rw [gu]; exact ht.l7),fun x hx=>?_⟩
 ·rcases rR hx with h|rfl
  ·exact G.wd.mN x h
  grind
 ·have:=gu s.l z y
  grind
 ·rw [bJ] at hx;rcases rR hx with h|rfl
  ·exact G.rows x h
  grind
theorem Xx (s:D) (obj M:Int) (A:Act):(NV s obj M A).l.length=s.l.length:=by
 cases A with
 |jX=>rfl
 |yc=>rfl
 |res o c dn g r v m a oc=>
  unfold NV;rw [bJ,gu]
  cases m with
  |none=>rfl
  |some q=>exact gu _ _ _
theorem W? {s:D} {n:Nat} (G:Gs s n) {obj M:Int} {A:Act} (hA:FF (n+1) A) (ho0:0<=obj) (ho1:obj<(s.l.length:Int)) (hM:NoM A\/0<=M/\M<(s.l.length:Int)):Gs (NV s obj M A) (n+1):=by
 have G1:=G.mono (anl n)
 cases A with
 |jX=>exact G1
 |yc=>exact G1
 |res o c dn g r v m a oc=>
  obtain⟨U,Z,h3,h4,h5,h6,h7,h8,h9,_⟩:=hA
  have hd:(if dn=0 then (0:Int) else 1)=dn:=by rcases h3 with rfl|rfl<;>rfl
  have hy:vY (dL [.i o,.i c,.i (if dn=0 then 0 else 1),.i g,r,v]):=⟨o,c,_,g,r,v,rfl,U,Z,by rw [hd]; exact h3,h4,h5,h7⟩
  cases m with
  |none=>exact OC G1 hy h6 h8 J
  |some q=>
   have hM:0<=M/\M<(s.l.length:Int):=hM.resolve_left (fun h=>by simp [NoM] at h);obtain⟨k,rfl⟩ : ∃k:Nat,M=(k:Int):=⟨M.toNat,J⟩;have hk:k<s.l.length:=J
   obtain⟨o',c',d',g',r',v',he,q1,q2,q3,q4,q5,q6⟩:=G.wd.mN _ (az hk);have hrw:=G1.rows _ (az hk);rw [he] at hrw;have hz:dL (fC (s.at (k:Int)).l 0 (.i q))=dL [.i q,.i c',.i d',.i g',r',v']:=by rw [bX hk,he]; rfl
   have G2:Gs (dL (fC s.l (k:Int) (dL (fC (s.at (k:Int)).l 0 (.i q))))) (n+1):=by rw [hz];exact OC G1 ⟨q,c',d',g',r',v',rfl,h9 q rfl,q2,q3,q4,q5,q6⟩ hrw.1 hrw.2 J
   have:=OC (z:=obj) G2 hy h6 h8 (by rw [bJ,gu]; omega);rw [bJ] at this;exact this
def evA (th op obj:Int):Act->List Int
 | .jX=>[0,0,0,0,0,0]
 | .yc=>[th,27,obj,IntKind.i64.wrap op,0,2]
 | .res _ _ _ _ _ _ _ a oc=>[th,op,obj,a,0,oc]
theorem CF (s:D) (th op obj M:Int) (A:Act):DQ s th op obj M A=enc (NV s obj M A)::evA th op obj A:=by cases A<;>rfl
theorem z6:((2:Int)=1)=False/\((4:Int)=3)=False/\((5:Int)=3)=False/\((5:Int)=4)=False/\((6:Int)=3)=False/\((6:Int)=4)=False/\((6:Int)=5)=False/\((7:Int)=3)=False/\((7:Int)=4)=False/\((7:Int)=5)=False/\((7:Int)=6)=False:=ad
structure KT where
 a:Int
 lc:D
 w:Int
 o:Int
 g:Int
 tr:Int
abbrev KT.d (x:KT):D:=dL [.i x.a,x.lc,.i x.w,.i x.o,.i x.g,.i x.tr]
structure Cd (d0 d1:D):Prop where
 h0:Wd (.sl 3) d0
 U:Wd (.sl 4) d1
 ok:uO d0 d1
 ins: ∀x∈d1.l,acs d0 x
theorem MR.code {d0 d1 s k:D} (h0:Wd (.sl 3) d0) (U:Wd (.sl 4) d1) (hr:AG s) (M:MR d0 d1 s k):Cd d0 d1/\s.l.length=d0.l.length:=by obtain⟨b,hb,_,hi⟩:=lN h0 U hr;rw [M.1] at hb;simp only [ah,List.cons.injEq,and_true] at hb;obtain⟨hC,hle,_⟩:=hi.1 hb.symm;obtain⟨ys,hC',c,rfl,_,oM⟩:=wD h0 U;rw [hC] at hC';simp only [ah,List.cons.injEq,and_true] at hC';have:=oM hC'.symm;exact⟨⟨h0,U,this.1,this.2⟩,hle⟩
structure Rt (d0 d1:D) (t:Int) (x:KT):Prop where
 t0:0<=t
 t1:t<(d1.l.length:Int)
 ok:OkT d0 ((d1.at t).hd 1).l.length ((d1.at t).hd 2).l.length x.a x.lc.l.length x.w x.o x.g x.tr
 Y:Wd (.sl 0) x.lc
 hg:gq .i64 x.g
abbrev Ins (d1:D) (t:Int) (x:KT):D:=((d1.at t).hd 2).at x.a
abbrev Nc (d1:D) (t:Int):Nat:=((d1.at t).hd 2).l.length
structure InF (d0:D) (nl nc:Nat) (I:D):Prop where
 ok:OkI d0 nl nc (I.hd 0).n (I.hd 1).n (I.hd 2).n (I.hd 3).n (I.hd 4).n (I.hd 6).l.length
 op:gq .u8 (I.hd 1).n
 ob:gq .i64 (I.hd 2).n
 to:gq .i64 (I.hd 4).n
 nn:gq .i64 (I.hd 5).n
 ar:Wd (.sl 6) (I.hd 6)
theorem Cd.at {d0 d1:D} (C:Cd d0 d1) {t:Int} (t0:0<=t) (t1:t<(d1.l.length:Int)):d1.at t∈d1.l:=by
 obtain⟨i,rfl⟩ : ∃i:Nat,t=(i:Int):=⟨t.toNat,J⟩
 grind [bX]
theorem DX {d:D} {i:Int} (h0:0<=i) (U:i<(d.l.length:Int)):d.at i∈d.l:=by
 obtain⟨k,rfl⟩ : ∃k:Nat,i=(k:Int):=⟨i.toNat,J⟩
 grind [bX]
theorem Cd.code {d0 d1:D} (C:Cd d0 d1) {t:Int} (t0:0<=t) (t1:t<(d1.l.length:Int)):Wd (.sl 5) ((d1.at t).hd 2):=by
 obtain⟨i,rfl⟩ : ∃i:Nat,t=(i:Int):=⟨t.toNat,J⟩;have hi:i<d1.l.length:=J
 obtain⟨wZ,lc,cd,he,_,_,h⟩:=yo C.U hi;rw [bX hi,he];exact h
theorem Cd.inf {d0 d1:D} (C:Cd d0 d1) {t:Int} {x:KT} (R:Rt d0 d1 t x) (h:x.a<(Nc d1 t:Int)):InF d0 ((d1.at t).hd 1).l.length (Nc d1 t) (Ins d1 t x):=by
 have ha:=R.ok.1;have U:=C.ins _ (C.at R.t0 R.t1) (Ins d1 t x) (DX ha h);obtain⟨i,hi⟩ : ∃i:Nat,x.a=(i:Int):=⟨x.a.toNat,J⟩;have dX:i<((d1.at t).hd 2).l.length:=by unfold Nc at h; omega
 obtain⟨a,b,c,e,f,g,FI,he,_,hb,hc,_,hf,hg,hw⟩:=Oh (C.code R.t0 R.t1) dX;have hI:Ins d1 t x=dL [.i a,.i b,.i c,.i e,.i f,.i g,FI]:=by unfold Ins; rw [hi,bX dX,he]
 refine⟨U,?_,?_,?_,?_,?_⟩
 all_goals
  rw [hI];simp only [zg,aC,T0];assumption
theorem Rt.ints {d0 d1:D} {t:Int} {x:KT} (R:Rt d0 d1 t x):Ints x.lc:=fun y hy=>by obtain⟨n,rfl,hn⟩:=(R.Y.el1 rfl y hy).i;exact hn
section
variable {d0 d1 s k:D} {t:Int} {x:KT} (hk:k.at t=x.d) (ht:t<(k.l.length:Int)) (R:Rt d0 d1 t x)
include hk ht R
def iB (d1:D) (t:Int) (x:KT):Int:=if x.w=0 then (if x.a=(Nc d1 t:Int) then 1 else 0) else 0
theorem yO:L 1650 [enc d0,enc d1,enc s,enc k,t]=some [iB d1 t x]:=by
 have c1: ¬t<0:=by have:=R.t0; omega
 have c2:=R.t1;unfold iB Nc;rw [bL,ado];simp only [ab0,zz,hk,c1,ht,c2,zg];by_cases w0:x.w=0
 ·simp only [w0,if_true];by_cases a0:x.a=(((d1.at t).hd 2).l.length:Int)
  ·simp only [a0,if_true];rfl
  ·simp only [a0,if_false];rfl
 ·simp only [w0,if_false];rfl
end
noncomputable def ev (e lc:D):Int:=low ((L 1950 [(e.hd 0).n,enc (e.hd 1),(e.hd 2).n,enc (e.hd 3),enc lc]).getD []) 0
theorem L3 {Cq lc:D} (ha:Wd (.sl 6) Cq) (Y:Ints lc) {i:Int} (i0:0<=i) (i1:i<(Cq.l.length:Int)):L 1950 [((Cq.at i).hd 0).n,enc ((Cq.at i).hd 1),((Cq.at i).hd 2).n,enc ((Cq.at i).hd 3),enc lc]=some [ev (Cq.at i) lc]/\gq .i64 (ev (Cq.at i) lc):=by
 obtain⟨j,rfl⟩ : ∃j:Nat,i=(j:Int):=⟨i.toNat,J⟩;have hj:j<Cq.l.length:=J
 obtain⟨k',s',n',ks',he,_,_,hn',Z⟩:=wi ha hj;obtain⟨ys,hL,v,rfl,hv⟩:=L2 _ ks' (au _) Z k' n' s' lc hn' Y;have e1:Cq.at (j:Int)=dL [.i k',s',.i n',ks']:=by rw [bX hj,he]
 simp_all [ev,e1,zg,T0,bM]
noncomputable def ME (Cq lc:D):Int:=if Cq.l.length=0 then 0 else ev (Cq.at ((Cq.l.length:Int)-1)) lc
theorem abe {Cq lc:D} (ha:Wd (.sl 6) Cq) (Y:Ints lc):gq .i64 (ME Cq lc):=by
 unfold ME;split
 ·constructor<;>omega
 ·exact (L3 ha Y J J).2
theorem GS {Cq lc:D} (ha:Wd (.sl 6) Cq) (Y:Ints lc) (x3 x5 x6 x7 x8 x9 S7:Int): ∀(j i:Nat) (v:Int),i+j=Cq.l.length->L 1751 [enc Cq,(Cq.l.length:Int),(i:Int),x3,enc lc,x5,x6,x7,x8,x9,S7,v]=some [x9,S7,if j=0 then v else ME Cq lc,x8,1]
 |0,i,v,hi=>by simp_all [bL,ZH,Wq,zz,bR]
 |j+1,i,v,hi=>by
  have hr:=ha.len;have c1:(i:Int)<(Cq.l.length:Int):=J
  have c2: ¬((i:Int)<0):=J
  have w:=bS (n:=i) J;obtain⟨he,_⟩:=L3 ha Y (i:=(i:Int)) J c1;have ih:=GS ha Y x3 x5 x6 x7 x8 x9 S7 j (i+1) (ev (Cq.at (i:Int)) lc) J;rw [bL,ZH];simp only [Wq,zz,c1,c2,w,he,bC]
  grind [ME]
noncomputable def iO (d1:D) (t:Int) (x:KT):List Int:=
 if x.w=0 then
  if x.a=(Nc d1 t:Int) then [0,0,0,0,0]
  else if ((Ins d1 t x).hd 0).n=1 then [((Ins d1 t x).hd 1).n,((Ins d1 t x).hd 2).n,ME ((Ins d1 t x).hd 6) x.lc,x.tr,1]
  else if ((Ins d1 t x).hd 0).n=2 then [26,((Ins d1 t x).hd 2).n,0,0,1]
  else [0,0,0,0,0]
 else [x.w,x.o,x.g,0,1]
section
variable {d0 d1 s k:D} {t:Int} {x:KT} (C:Cd d0 d1) (hk:k.at t=x.d) (ht:t<(k.l.length:Int)) (R:Rt d0 d1 t x)
include C hk ht R
theorem IM:L 1750 [enc d0,enc d1,enc s,enc k,t]=some (iO d1 t x):=by
 have c1: ¬t<0:=by have:=R.t0; omega
 have c2:=R.t1;have c3: ¬x.a<0:=by have:=R.ok.1; omega
 have ho:=yO (s:=s) hk ht R;unfold iO;rw [bL,adn];by_cases w0:x.w=0
 ·by_cases a0:x.a=(Nc d1 t:Int)
  ·have e:iB d1 t x=1:=by unfold iB; rw [ag w0,ag a0]
   rw [e] at ho;rw [ag w0,ag a0];simp only [Gc,zz,hk,c1,ht,c2,zg,w0,ho,bG,bR]
  ·have e:iB d1 t x=0:=by unfold iB; rw [ag w0,af a0]
   rw [e] at ho;have ff:x.a<(Nc d1 t:Int):=by have:=R.ok.2.1; unfold Nc at a0 ⊢; omega
   have F:=C.inf R ff;rw [ag w0,af a0];unfold Ins at F ⊢;unfold Nc at ff;by_cases U:((((d1.at t).hd 2).at x.a).hd 0).n=1
   ·rw [ag U];have lp:=GS F.ar R.ints x.a x.w x.o x.g x.tr ((((d1.at t).hd 2).at x.a).hd 1).n ((((d1.at t).hd 2).at x.a).hd 2).n ((((d1.at t).hd 2).at x.a).hd 6).l.length 0 0 J
    have e2:(if ((((d1.at t).hd 2).at x.a).hd 6).l.length=0 then 0 else ME ((((d1.at t).hd 2).at x.a).hd 6) x.lc)=ME ((((d1.at t).hd 2).at x.a).hd 6) x.lc:=by
     grind [ME]
    rw [e2] at lp;simp only [Gc,zz,hk,c1,ht,c2,c3,zg,w0,ho,ff,U,bC]
    grind
   ·by_cases Z:((((d1.at t).hd 2).at x.a).hd 0).n=2
    ·rw [af U,ag Z];simp only [Gc,zz,hk,c1,ht,c2,c3,zg,w0,ho,ff,Z,bR,if_false,z6]
    ·rw [af U,af Z];simp only [Gc,zz,hk,c1,ht,c2,c3,zg,w0,ho,ff,U,Z,bR]
 ·rw [af w0];simp only [Gc,zz,hk,c1,ht,zg,w0,bR]
end
noncomputable def sN (I:D) (x:KT):KT:=
 if (I.hd 0).n=3 then { x with a:=x.a+1,lc:=dL (fC x.lc.l (I.hd 3).n (.i (ev ((I.hd 6).at 0) x.lc))) }
 else if (I.hd 0).n=4 then (if ev ((I.hd 6).at 0) x.lc=0 then { x with a:=(I.hd 4).n } else { x with a:=x.a+1 })
 else if (I.hd 0).n=5 then { x with a:=(I.hd 4).n }
 else if (I.hd 0).n=6 then { x with a:=x.a+1,lc:=dL (fC x.lc.l (I.hd 3).n (.i (I.hd 5).n)) }
 else if 0<(x.lc.at (I.hd 3).n).n then { x with a:=x.a+1,lc:=dL (fC x.lc.l (I.hd 3).n (.i (IntKind.i64.wrap ((x.lc.at (I.hd 3).n).n-1)))) }
 else { x with a:=(I.hd 4).n }
structure Loc (d1:D) (t:Int) (x:KT):Prop where
 w:x.w=0
 a:x.a<(Nc d1 t:Int)
 n1:((Ins d1 t x).hd 0).n≠1
 n2:((Ins d1 t x).hd 0).n≠2
theorem X0 {d0 d1:D} {t:Int} {x:KT} (R:Rt d0 d1 t x) (ho:iB d1 t x=0) (hn:low (iO d1 t x) 4=0):Loc d1 t x:=by
 unfold iB at ho;unfold iO at hn;have Z:=R.ok.2.1;by_cases w0:x.w=0
 ·rw [ag w0] at ho hn;by_cases a0:x.a=(Nc d1 t:Int)
  ·grind
  ·rw [af a0] at hn;by_cases U:((Ins d1 t x).hd 0).n=1
   ·grind [bN,bM]
   ·by_cases h2':((Ins d1 t x).hd 0).n=2
    ·grind [bN,bM]
    ·exact⟨w0,by unfold Nc at a0 ⊢; omega,U,h2'⟩
 grind [bN,bM]
section
variable {d0 d1 s k:D} {t:Int} {x:KT} (C:Cd d0 d1) (ht:t<(k.l.length:Int)) (R:Rt d0 d1 t x) (Lc:Loc d1 t x)
include C ht R Lc
theorem XY:L 14000 [enc d0,enc d1,t,enc s,enc k,x.a,enc x.lc,x.w,x.o,x.g,x.tr]=some [0,enc d0,enc d1,t,enc s,enc k,x.a,enc x.lc,x.w,x.o,x.g,x.tr,(sN (Ins d1 t x) x).a,enc (sN (Ins d1 t x) x).lc]:=by
 have c1: ¬t<0:=by have:=R.t0; omega
 have c2:=R.t1;have c3: ¬x.a<0:=by have:=R.ok.1; omega
 have c4:=Lc.a;have F:=C.inf R c4;have E_:(x.lc.l.length:Int)=(((d1.at t).hd 1).l.length:Int):=R.ok.2.2.1;have hnc:((d1.at t).hd 2).l.length<=140737488351232:=(C.code R.t0 R.t1).len;have n1:=Lc.n1;have n2:=Lc.n2
 have hw:IntKind.i64.wrap (x.a+1)=x.a+1:=by
  grind [mj]
 have E:=L3 F.ar R.ints (i:=0);have ok:=F.ok;unfold Ins at n1 n2 ok E ⊢;unfold Nc at c4;rw [bL,ZQ];unfold sN;rcases ok with h|h|⟨h,i0,i1,na⟩|⟨h,_,_,na⟩|⟨h,_⟩|⟨h,i0,i1⟩|⟨h,i0,i1,_⟩
 ·grind
 ·grind
 ·have c5: ¬(((((d1.at t).hd 2).at x.a).hd 3).n<0):=J
  have c6:(((((d1.at t).hd 2).at x.a).hd 3).n<(x.lc.l.length:Int)):=J
  have c7:(0:Int)<(((((d1.at t).hd 2).at x.a).hd 6).l.length:Int):=J
  obtain⟨E,_⟩:=E J c7;simp only [uB,zz,c1,ht,c2,c3,c4,c5,c6,c7,h,E,hw,bR]
 ·have c7:(0:Int)<(((((d1.at t).hd 2).at x.a).hd 6).l.length:Int):=J
  obtain⟨E,_⟩:=E J c7;by_cases hz:ev (((((d1.at t).hd 2).at x.a).hd 6).at 0) x.lc=0
  ·simp only [uB,zz,c1,ht,c2,c3,c4,c7,h,E,hw,hz,bR,z6]
  ·simp only [uB,zz,c1,ht,c2,c3,c4,c7,h,E,hw,hz,bR,z6]
 ·simp only [uB,zz,c1,ht,c2,c3,c4,h,hw,bR,z6]
 ·have c5: ¬(((((d1.at t).hd 2).at x.a).hd 3).n<0):=J
  have c6:(((((d1.at t).hd 2).at x.a).hd 3).n<(x.lc.l.length:Int)):=J
  simp only [uB,zz,c1,ht,c2,c3,c4,c5,c6,h,hw,bR,z6]
 ·have c5: ¬(((((d1.at t).hd 2).at x.a).hd 3).n<0):=J
  have c6:(((((d1.at t).hd 2).at x.a).hd 3).n<(x.lc.l.length:Int)):=J
  by_cases hz:0<(x.lc.at ((((d1.at t).hd 2).at x.a).hd 3).n).n
  ·simp only [uB,zz,c1,ht,c2,c3,c4,c5,c6,h,hw,hz,bR,z6]
  ·simp only [uB,zz,c1,ht,c2,c3,c4,c5,c6,h,hw,hz,bR,z6]
theorem XX (hz:x.lc.l.length=0):L 14050 [enc d0,enc d1,t,enc s,enc k,x.a,enc x.lc,x.w,x.o,x.g,x.tr]=some [0,enc d0,enc d1,t,enc s,enc k,x.a,enc x.lc,x.w,x.o,x.g,x.tr,(sN (Ins d1 t x) x).a]/\(sN (Ins d1 t x) x).lc=x.lc:=by
 have c1: ¬t<0:=by have:=R.t0; omega
 have c2:=R.t1;have c3: ¬x.a<0:=by have:=R.ok.1; omega
 have c4:=Lc.a;have F:=C.inf R c4;have E_:(x.lc.l.length:Int)=(((d1.at t).hd 1).l.length:Int):=R.ok.2.2.1;have hnc:((d1.at t).hd 2).l.length<=140737488351232:=(C.code R.t0 R.t1).len;have n1:=Lc.n1;have n2:=Lc.n2
 have hw:IntKind.i64.wrap (x.a+1)=x.a+1:=by
  grind [mj]
 have E:=L3 F.ar R.ints (i:=0);have ok:=F.ok;unfold Ins at n1 n2 ok E ⊢;unfold Nc at c4;rw [bL,ZP];unfold sN;rcases ok with h|h|⟨h,i0,i1,na⟩|⟨h,_,_,na⟩|⟨h,_⟩|⟨h,i0,i1⟩|⟨h,i0,i1,_⟩
 ·grind
 ·grind
 ·omega
 ·have c7:(0:Int)<(((((d1.at t).hd 2).at x.a).hd 6).l.length:Int):=J
  obtain⟨E,_⟩:=E J c7;by_cases hz:ev (((((d1.at t).hd 2).at x.a).hd 6).at 0) x.lc=0
  ·simp only [Ij,zz,c1,ht,c2,c3,c4,c7,h,E,hw,hz,bR,z6]
  ·simp only [Ij,zz,c1,ht,c2,c3,c4,c7,h,E,hw,hz,bR,z6]
 ·simp only [Ij,zz,c1,ht,c2,c3,c4,h,hw,bR,z6]
 all_goals grind
theorem XW:Rt d0 d1 t (sN (Ins d1 t x) x)/\(sN (Ins d1 t x) x).lc.l.length=x.lc.l.length:=by
 have c4:=Lc.a;have F:=C.inf R c4;obtain⟨a0,a1,E_,tr0,tr1,hw⟩:=R.ok;have n1:=Lc.n1;have n2:=Lc.n2;have ok:=F.ok;have hI:=R.ints
 have hwd: ∀{z v:Int},0<=z->z<(x.lc.l.length:Int)->gq .i64 v->Wd (.sl 0) (dL (fC x.lc.l z (.i v))):=fun {z v} h0 U hv=>by
  have:=R.Y.room;have h3:pW 0=8:=rfl;rw [h3] at this;have hs:=gu x.lc.l z (.i v);refine vJ (fun y hy=>?_) (fun he=>?_) (by rw [hs]; omega)
  ·rcases rR hy with h|rfl
   ·exact (R.Y.el1 rfl y h).i
   grind
  grind
 have hsl: ∀z v,(dL (fC x.lc.l z v)).l.length=x.lc.l.length:=fun z v=>by rw [bJ,gu]
 have T:=R.t0;have T':=R.t1;unfold Nc at c4 ok F;unfold sN;have go: ∀{a:Int} {lc:D},0<=a->a<=(((d1.at t).hd 2).l.length:Int)->lc.l.length=x.lc.l.length->Wd (.sl 0) lc->Rt d0 d1 t { x with a:=a,lc:=lc }/\({ x with a:=a,lc:=lc }:KT).lc.l.length=x.lc.l.length:=fun h0 U Z h3=> ⟨⟨T,T',⟨h0,U,by rw [Z]; exact E_,tr0,tr1,hw⟩,h3,R.hg⟩,Z⟩;rcases ok with h|h|⟨h,i0,i1,na⟩|⟨h,t0,t1,na⟩|⟨h,t0,t1⟩|⟨h,i0,i1⟩|⟨h,i0,i1,t0,t1⟩
 ·grind
 ·grind
 ·rw [ag h];exact go J J (hsl _ _) (hwd i0 J (L3 F.ar hI J J).2)
 ·rw [af J,ag h];split
  ·exact go t0 t1 rfl R.Y
  ·exact go J J rfl R.Y
 ·rw [af J,af J,ag h];exact go t0 t1 rfl R.Y
 ·rw [af J,af J,af J,ag h];exact go J J (hsl _ _) (hwd i0 J F.nn)
 ·rw [af J,af J,af J,af J];split
  ·grind [go,qj]
  ·exact go t0 t1 rfl R.Y
end
end Go.As.Try
end
